/- Texts of this claim, merged: Held2, SpR, SpN, SpZ, Pick, LedR, SpL, SpF, SpPl, BigO, Cut, LawSpP. -/
import Derived.Test.YtgjlclihgpahbaaRows
import Derived.Test.YtgjlclihgpahbaaMgB
set_option linter.unusedVariables false

namespace Go.Proofs.Ytgjlclihgpahbaa
open Go
section
variable {P : Program} {l : List Oper} {Q : Exit → Act → World → Prop} {md : Region.Mode} {S : World → Prop} {o : Oper} {rest : List Oper} {fuel : Nat} {listed : Array Bool} {a : Act} {w : World}
theorem takeM {ty : TypeId} {x : Operand} {d : TypeDesc} (i g off : Nat) (cs : List Value) (hS : ∀ w, S w → w.rangeAt g off cs) (hu : P.underlying ty = some d) (hl : (P.info? ty).map (·.size) = some cs.length)
    (hi : l.drop i = o :: rest) (hs : Region.noSelect l.toArray = true) (hf : Region.free md l.toArray listed i = true) (hr : (Region.ready md l.toArray listed).contains i = true)
    (hQ : ∀ c a w, Q (.panic c) (a.put o.dst (.agg cs.toArray)) w → Q (.panic c) a w) (hd : d.isRow = true) (hw : Region.wanted o (yielded l.toArray a.tmps) = true)
    (ho : o.op = .load ty x) (hx : a.eval x = .pointer (some ⟨g, off, none⟩)) (hSw : S w)
    (h : wpAnyH P md l.toArray Q S fuel (listed.setIfInBounds i true) (a.put o.dst (.agg cs.toArray)) w) : wpAnyH P md l.toArray Q S (fuel + 1) listed a w :=
  wpAnyH_take (drop_at hi) hs hf hr hQ (yieldsIf_load_mid hw ty x ho g off hx cs d hS hu hd hl) hSw h
/-- an operation that is not wanted -/
theorem takeSkip (i : Nat) (hi : l.drop i = o :: rest) (hs : Region.noSelect l.toArray = true) (hf : Region.free md l.toArray listed i = true) (hr : (Region.ready md l.toArray listed).contains i = true)
    (hQ : ∀ c a w, Q (.panic c) (a.put o.dst undef) w → Q (.panic c) a w) (hw : Region.wanted o (yielded l.toArray a.tmps) = false) (hSw : S w)
    (h : wpAnyH P md l.toArray Q S fuel (listed.setIfInBounds i true) (a.put o.dst undef) w) : wpAnyH P md l.toArray Q S (fuel + 1) listed a w :=
  wpAnyH_take (drop_at hi) hs hf hr hQ (.inr ⟨hw, rfl⟩) hSw h
theorem takeTwo {o' : Oper} {rest' : List Oper} (i j : Nat) (hi : l.drop i = o :: rest) (hj : l.drop j = o' :: rest') (hr : Region.ready md l.toArray listed = [i, j])
    (h : ∀ K' : Act → World → Prop, Shut (∀ a w, S w → (S w → wpAnyH P md l.toArray Q S fuel (listed.setIfInBounds i true) a w) → K' a w) → if Region.wanted o (yielded l.toArray a.tmps) = true then Oper.wp P o a w K' Q else K' (a.put o.dst undef) w)
    (h' : ∀ K' : Act → World → Prop, Shut (∀ a w, S w → (S w → wpAnyH P md l.toArray Q S fuel (listed.setIfInBounds j true) a w) → K' a w) → if Region.wanted o' (yielded l.toArray a.tmps) = true then Oper.wp P o' a w K' Q else K' (a.put o'.dst undef) w) :
    wpAnyH P md l.toArray Q S (fuel + 1) listed a w :=
  wpAnyH_ready hr (by simp) (AllReadyH.cons (drop_at hi) h (AllReadyH.cons (drop_at hj) h' AllReadyH.nil))
/-- an operation that reads nothing, its value found by the walk -/
theorem takeV (i : Nat) {v : Value} (hi : l.drop i = o :: rest) (hv : ∀ w, S w → (execOp a.eval o).run P w = .ok (.value v) w) (hs : Region.noSelect l.toArray = true) (hf : Region.free md l.toArray listed i = true) (hr : (Region.ready md l.toArray listed).contains i = true)
    (hQ : ∀ c a w, Q (.panic c) (a.put o.dst v) w → Q (.panic c) a w) (hw : Region.wanted o (yielded l.toArray a.tmps) = true) (hSw : S w)
    (h : wpAnyH P md l.toArray Q S fuel (listed.setIfInBounds i true) (a.put o.dst v) w) : wpAnyH P md l.toArray Q S (fuel + 1) listed a w :=
  wpAnyH_take (drop_at hi) hs hf hr hQ (.inl ⟨hw, hv⟩) hSw h
end
end Go.Proofs.Ytgjlclihgpahbaa

namespace Go.Proofs.Ytgjlclihgpahbaa
open Go.RowKit
set_option linter.unusedVariables false
set_option maxRecDepth 100000

attribute [local irreducible] permB kBytes kPerm kFrom

section
variable {w0 w : World} {F0 : List Nat} {E : Env}

/-- a sponge, shut -/
def Sp.shut (x : Sp) : Sp := if x.s = true then x else x.close

def Sp.shutN (x : Sp) : Nat := if x.s = true then 0 else 1

theorem Sp.shut_ok {x : Sp} (h : x.Ok) : x.shut.Ok ∧ x.shut.s = true ∧ x.shut.r = x.r := by
  unfold Sp.shut
  by_cases hs : x.s = true
  · rw [if_pos hs]; exact ⟨h, hs, rfl⟩
  · rw [if_neg hs]; have := Sp.close_ok h; exact ⟨this.1, this.2.1, this.2.2.1⟩

theorem chunk_at {b : List UInt8} {xs : List Value} {p d j : Nat} {v : Value} (h : (((b.drop p).take d).map vb)[j]? = some v) : (b.map vb ++ xs)[p + j]? = some v := by
  rw [List.getElem?_map, List.getElem?_take] at h
  by_cases hj : j < d
  · rw [if_pos hj, List.getElem?_drop] at h
    have hl : p + j < b.length := by
      rcases Nat.lt_or_ge (p + j) b.length with h1 | h1
      · exact h1
      · rw [List.getElem?_eq_none h1] at h; cases h
    rw [List.getElem?_append_left (by rw [List.length_map]; exact hl), List.getElem?_map]
    exact h
  · rw [if_neg hj] at h; cases h

theorem spread_end {w0 w : World} {F0 : List Nat} {x y : Sp} {t e n g gO : Nat} {A : Own} (h1 : x.after (t + e) = y.go e) (h2 : x.read (t + e) = x.read t ++ (y.b.drop y.p).take e) (hb : y.b.length = 200) (he : t + e ≤ n ∧ y.p + e ≤ 200)
    (H : St w0 F0 w (lay ([A, .blk g 71 y.vs, .blk gO 5 ((x.read t ++ List.replicate (n - t) 0).map vb)].set 2 (.blk gO 5 (splice ((x.read t ++ List.replicate (n - t) 0).map vb) t (((y.b.drop y.p).take e).map vb)))))) :
    St w0 F0 (w.setCell ⟨g, 202, none⟩ (.int .i64 ((y.p : Int) + (e : Int)))) (lay [A, .blk g 71 (x.after (t + e)).vs, .blk gO 5 ((x.read (t + e) ++ List.replicate (n - (t + e)) 0).map vb)]) := by
  have hl : ((y.b.drop y.p).take e).length = e := by rw [List.length_take, List.length_drop, hb]; omega
  rw [splice_mid _ _ _ n t (Sp.read_length x t) (List.length_replicate ..) (by rw [hl]; omega), hl, ← h2, List.drop_replicate, show n - t - e = n - (t + e) by omega] at H
  have H2 := (H.store 1 rfl (o := 202) (u := .int .i64 ((y.p : Int) + (e : Int)))).upd_mk (by simp)
  unfold Sp.vs at H2
  rw [sp_put _ _ 2 _ hb rfl, show ((y.p : Int) + (e : Int)) = ((y.p + e : Nat) : Int) by rw [Int.natCast_add]] at H2
  rw [h1, show ((y.p : Int) + (e : Int)) = ((y.p + e : Nat) : Int) by rw [Int.natCast_add]]
  exact H2

set_option maxHeartbeats 4000000 in
theorem spRead_s (l : Value) (r : Option (List RunT)) (m : Nat) (b : Int) (g : Nat) (x0 : Sp) (n : Nat) (N : Int) (hN : N = n) (H : St w0 F0 w E) (i j k0 : Nat) (hij : i ≠ j) (hi : E i = some (led l r)) (hj : E j = some (.blk g 71 x0.vs)) (hk : E k0 = none) (hg : LW r m b) (hm : m ≤ 999999999999) (hb : b ≤ 4000000000000000000) (hx0 : x0.Ok) (hn : n ≤ 65536) :
    Calls Try.prog 9 #[lptr g, l, .int .i64 N] w fun e w' => ∃ v, e = .returned (.tuple #[v, .int .i64 0]) ∧ St w0 F0 w' (upd (upd (upd E i (led l (noteN r 3 200 (x0.shutN + (x0.shut.p + n - 1) / x0.r)))) j (.blk g 71 (x0.shut.after n).vs)) k0 (.row 5 1 v n ((x0.shut.read n).map vb))) := by
  subst hN
  obtain ⟨i0, hi0, hz0, hz1, hz2⟩ := info_parts u8_info
  obtain ⟨F, HF, -, -, hback⟩ := H.frame2 i j hij hi hj
  have HB := Lib.hid hback
  have HKK := Lib.hid hk
  have HIJ := Lib.hid hij
  have HI := Lib.hid hi
  have HJ := Lib.hid hj
  replace HF := HF.as2
  clear H hback hi hj hk hij
  obtain ⟨k1, k2, k3, k4⟩ := Sp.cells hx0.hb
  have h8 := hx0.r8
  have c0 := HF.cell 1 rfl k1
  have c3 := HF.cell 1 rfl k4
  clear k1 k2 k3 k4
  obtain ⟨x, c0', hxe, hce, hxok, hxs, hcl⟩ : ∃ (x : Sp) (c0' : Nat), Hid (x0.shut = x) ∧ Hid (x0.shutN = c0') ∧ Hid x.Ok ∧ Hid (x.s = true) ∧ c0' ≤ 1 := ⟨_, _, rfl, rfl, (Sp.shut_ok hx0).1, (Sp.shut_ok hx0).2.1, by unfold Sp.shutN; split <;> omega⟩
  have hrr : Hid (x.r = x0.r) := by unfold Hid; rw [← hxe.out]; exact (Sp.shut_ok hx0).2.2
  have hnn : decide ((n : Int) < 0) = false := by simp
  have hnn2 : decide ((n : Int) > 65536) = false := by simp; omega
  have HX0 := Lib.hid hx0
  clear hx0
  rcases hs : x0.s with _ | _
  all_goals rw [hs] at c3
  have hS := Lib.hid hs
  have e1 : Hid (x = x0.close) := by unfold Hid; rw [← hxe.out]; unfold Sp.shut; rw [if_neg (by rw [hs]; decide)]
  have e2 : Hid (c0' = 1) := by unfold Hid; rw [← hce.out]; unfold Sp.shutN; rw [if_neg (by rw [hs]; decide)]
  clear hs
  go_enter Try.func9, Try.ntmps9
  go_wp2_with fail
  refine (spNone_no g x0.r w c0 (by omega)).mono ?_
  rintro e w1 ⟨rfl, rfl⟩
  unfold lptr
  go_wp2_with fail
  refine (spClose_s l r m b g x0 HF 0 1 (by omega) rfl rfl hg hm hb HX0.out hS.out).mono ?_
  rintro e w2 ⟨rfl, H2⟩
  rw [upd_laid (by simp), upd_laid (by simp)] at H2
  replace H2 : St w F w2 (lay [led l (noteN r 3 200 c0'), .blk g 71 x.vs]) := by rw [e1.out, e2.out]; exact H2
  clear c0 c3 HF
  go_upto_region 7 with (fail)
  refine absorb_wp (E := lay [led l (noteN r 3 200 c0'), .blk g 71 x.vs]) H2 ?_
  clear H2 hnn hnn2
  intro w2 H2
  rotate_left
  have e1 : Hid (x = x0) := by unfold Hid; rw [← hxe.out]; unfold Sp.shut; rw [if_pos hs]
  have e2 : Hid (c0' = 0) := by unfold Hid; rw [← hce.out]; unfold Sp.shutN; rw [if_pos hs]
  clear hs
  go_enter Try.func9, Try.ntmps9
  go_wp2_with fail
  refine (spNone_no g x0.r w c0 (by omega)).mono ?_
  rintro e w1 ⟨rfl, rfl⟩
  unfold lptr
  replace HF : St w F w (lay [led l (noteN r 3 200 c0'), .blk g 71 x.vs]) := by rw [e1.out, e2.out, noteN_zero]; exact HF
  go_upto_region 7 with (fail)
  refine absorb_wp (E := lay [led l (noteN r 3 200 c0'), .blk g 71 x.vs]) HF ?_
  clear HF hnn hnn2 c0 c3
  intro w2 H2
  rotate_left
  all_goals
    have hmk1 : i0.bytes * n ≤ 281474976710656 := by rw [hz2]; omega
    have hmk2 : n ≤ maxLen := by simp only [maxLen]; omega
    obtain ⟨w3, hrun, ho3, hg3⟩ := run_make_full (P := Try.prog) w2 w2.heap.size 27 5 i0 (.int .u8 0) 1 Try.underlying27 hi0 hz0 hz1 .i64 .i64 n hmk1 hmk2 (Nat.le_refl _)
    go_wp2
    try (rw [hrun]; go_wp2)
    clear hrun
    have hb3 : Below w2.heap.size w2 w3 := (Below.refl _ _).grown hg3 (Nat.le_refl _) (fun _ h => by cases h)
    have H3 := (((H2.pushRow 2 rfl hb3 (made0 ho3)).push_mk rfl).rowFull 2 rfl).upd_mk (by simp)
    clear ho3 hg3 hb3 H2 e1 e2
    generalize w2.heap.size = gO at H3 ⊢
    go_loopw [9] (fun i wr => ∃ t c : Nat, t ≤ n ∧ i = .int .i64 t ∧ Hid (c * x.r + (x.after t).p = x.p + t ∧ (t = 0 → c = 0) ∧ (0 < t → 1 ≤ (x.after t).p)) ∧ St w F wr (lay [led l (noteN r 3 200 (c0' + c)), .blk g 71 (x.after t).vs, .blk gO 5 ((x.read t ++ List.replicate (n - t) 0).map vb)])) (fun i _ => n - (intOf i).toNat)
    case atStart => exact ⟨0, 0, Nat.zero_le _, rfl, ⟨by rw [Sp.after_zero]; omega, fun _ => rfl, fun h => absurd h (by omega)⟩, H3⟩
    case round =>
      clear H3
      obtain ⟨t, c, ht, rfl, HC, H⟩ := hrel
      by_cases hlt : t < n
      · have hz := Sp.after_ok hxok.out hxs.out t
        have HZ : Hid ((x.after t).Ok ∧ (x.after t).r = x.r ∧ (x.after t).s = true) := ⟨hz.1, hz.2.1, hz.2.2.1⟩
        have hcb : c ≤ 65800 := by
          have h1 := HC.out.1
          have h2 := hxok.out.pr
          have h3 := hxok.out.r192
          have h4 := hxok.out.r8
          have : c * 1 ≤ c * x.r := Nat.mul_le_mul_left c (by omega)
          omega
        generalize hzz : x.after t = z at H HC HZ
        have HZZ := Lib.hid hzz
        clear hzz hz
        obtain ⟨k1, k2, k3, k4⟩ := Sp.cells HZ.out.1.hb
        have b0 := H.cell 1 rfl k1
        have b2 := H.cell 1 rfl k3
        have hk1 : (t : Int) < n := by omega
        clear k1 k2 k3 k4
        by_cases he : z.p = z.r
        have he1 : ((z.p : Int) == (z.r : Int)) = true := by simp; omega
        have HY := Lib.hid (Sp.turn_yes he)
        have hzp := HZ.out.1.hb
        have HCC : Hid ((c + 1) * x.r + z.turn.p = x.p + t ∧ 1 = 1) := by
          refine ⟨?_, rfl⟩
          have h1 := HC.out.1
          rw [HY.out]
          show (c + 1) * x.r + 0 = x.p + t
          rw [Nat.add_mul, Nat.one_mul, ← h1, he, HZ.out.2.1, Nat.add_zero]
        clear he
        go_wp2
        go_quiet (fail)
        go_wp2_with fail
        refine (spPermute_s l _ (m + 1) (b + ((c0' + c : Nat) : Int)) g z (H.drewN nq) 0 1 (by omega) rfl rfl (hg.noteN 3 200 _) (by omega) (by omega) hzp).mono ?_
        rintro e w6 ⟨rfl, H6⟩
        rw [upd_laid (by simp), upd_laid (by simp), noteN_noteN] at H6
        go_upto_region 12 with (fail)
        obtain ⟨c', HCY, hcb', H7⟩ : ∃ c', Hid (c' * x.r + z.turn.p = x.p + t) ∧ c' ≤ 65801 ∧ St w F w6 (lay [led l (noteN r 3 200 (c0' + c')), .blk g 71 z.turn.vs, .blk gO 5 ((x.read t ++ List.replicate (n - t) 0).map vb)]) := ⟨c + 1, HCC.out.1, by omega, by rw [HY.out]; exact H6⟩
        refine absorb_wp H7 ?_
        clear H6 H7 H HCC he1
        intro w7 H
        rotate_left
        have he1 : ((z.p : Int) == (z.r : Int)) = false := by simp; omega
        have HY := Lib.hid (Sp.turn_no he)
        go_wp2
        go_quiet (fail)
        go_upto_region 12 with (fail)
        obtain ⟨c', HCY, hcb', H7⟩ : ∃ c', Hid (c' * x.r + z.turn.p = x.p + t) ∧ c' ≤ 65801 ∧ St w F (wr.drewN nq) (lay [led l (noteN r 3 200 (c0' + c')), .blk g 71 z.turn.vs, .blk gO 5 ((x.read t ++ List.replicate (n - t) 0).map vb)]) := ⟨c, by unfold Hid; rw [HY.out]; exact HC.out.1, by omega, by rw [HY.out]; exact H.drewN _⟩
        refine absorb_wp H7 ?_
        clear H7 H he1
        intro w7 H
        rotate_left
        all_goals
          clear HY HC b0 b2
          have hz1 := Sp.turn_lt HZ.out.1
          have hz2 := Sp.turn_r z
          have hze := HZZ.out
          have HAG : ∀ k, z.turn.p + (k + 1) ≤ z.turn.r → x.after (t + (k + 1)) = z.turn.go (k + 1) := by
            intro k hk
            have := Sp.after_go (x := x) t k
            rw [hze] at this
            exact this hk
          have HRM : ∀ k, z.turn.p + k ≤ z.turn.r → z.turn.r ≤ 192 → z.turn.b.length = 200 → x.read (t + k) = x.read t ++ (z.turn.b.drop z.turn.p).take k := by
            intro k
            have := Sp.read_more (x := x) t k
            rw [hze] at this
            exact this
          rw [hz2.1] at HAG HRM
          have hzr := HZ.out.2.1
          have h192 := HZ.out.1.r192
          have h88 := HZ.out.1.r8
          have hr1 : z.turn.r = z.r := hz2.1
          rw [hzr] at HAG HRM hr1 h192 h88
          obtain ⟨hp1, hb2⟩ := hz1
          rw [hzr] at hp1
          generalize z.turn = y at H HCY HAG HRM hp1 hb2 hr1
          clear hz2 hze hzr HZ HZZ
          obtain ⟨D, hK⟩ : ∃ D, min (n - t) (x.r - y.p) = D + 1 := ⟨min (n - t) (x.r - y.p) - 1, by omega⟩
          have hAG := HAG D (by omega)
          have hRM := HRM (D + 1) (by omega) (by omega) hb2
          obtain ⟨e, hE⟩ : ∃ e, D + 1 = e := ⟨_, rfl⟩
          rw [hE] at hAG hRM hK
          have he1 : 1 ≤ e := by omega
          clear HAG HRM hE
          clear D
          have HAG1 := Lib.hid hAG
          have HRM1 := Lib.hid hRM
          obtain ⟨k1, -, k3, -⟩ := Sp.cells hb2
          rw [hr1] at k1
          have HR1 := Lib.hid hr1
          have HK := Lib.hid hK
          have HB2 := Lib.hid hb2
          have hK1 : e ≤ n - t := by omega
          have hK2 : y.p + e ≤ x.r := by omega
          clear hAG hRM hr1 hK hb2
          have hnt : ¬ n = t := by omega
          have hpp : y.p ≤ 200 := by omega
          have hpr : (y.p : Int) ≤ x.r := by omega
          have hrx : (x.r : Int) ≤ 200 := by omega
          replace H := H.drew
          refine wp_region_held_drew (S := fun w' : World => ∃ Z, St w F w' (lay [led l (noteN r 3 200 (c0' + c')), .blk g 71 y.vs, .blk gO 5 Z])) (by kernel_rfl) ?_ (fun hHeld => ?_)
          · exact ⟨_, H⟩
          refine takeV 0 rfl (by intro w h; clear h; go_simp; try with_reducible rfl) (by kernel_rfl) (by kernel_rfl) (by kernel_rfl) (by exact fun _ _ _ h => h) (by rfl) (by assumption) ?_
          try simp only [Act.put, List.setIfInBounds_toArray, List.set_cons_zero, List.set_cons_succ]
          refine takeV 1 rfl (by intro w h; clear h; go_simp; try with_reducible rfl) (by kernel_rfl) (by kernel_rfl) (by kernel_rfl) (by exact fun _ _ _ h => h) (by rfl) (by assumption) ?_
          try simp only [Act.put, List.setIfInBounds_toArray, List.set_cons_zero, List.set_cons_succ]
          refine takeV 2 rfl (by intro w h; clear h; go_simp; try with_reducible rfl) (by kernel_rfl) (by kernel_rfl) (by kernel_rfl) (by exact fun _ _ _ h => h) (by rfl) (by assumption) ?_
          try simp only [Act.put, List.setIfInBounds_toArray, List.set_cons_zero, List.set_cons_succ]
          refine takeV 3 rfl (by intro w h; clear h; go_simp; try with_reducible rfl) (by kernel_rfl) (by kernel_rfl) (by kernel_rfl) (by exact fun _ _ _ h => h) (by rfl) (by assumption) ?_
          try simp only [Act.put, List.setIfInBounds_toArray, List.set_cons_zero, List.set_cons_succ]
          refine takeV 4 rfl (by intro w h; clear h; go_simp; try with_reducible rfl) (by kernel_rfl) (by kernel_rfl) (by kernel_rfl) (by exact fun _ _ _ h => h) (by rfl) (by assumption) ?_
          try simp only [Act.put, List.setIfInBounds_toArray, List.set_cons_zero, List.set_cons_succ]
          refine takeV 5 rfl (by intro w h; clear h; go_simp; try with_reducible rfl) (by kernel_rfl) (by kernel_rfl) (by kernel_rfl) (by exact fun _ _ _ h => h) (by rfl) (by assumption) ?_
          try simp only [Act.put, List.setIfInBounds_toArray, List.set_cons_zero, List.set_cons_succ]
          refine takeV 6 rfl (by intro w h; clear h; go_simp; try with_reducible rfl) (by kernel_rfl) (by kernel_rfl) (by kernel_rfl) (by exact fun _ _ _ h => h) (by rfl) (by assumption) ?_
          try simp only [Act.put, List.setIfInBounds_toArray, List.set_cons_zero, List.set_cons_succ]
          refine takeV 7 rfl (by intro w h; clear h; go_simp; try with_reducible rfl) (by kernel_rfl) (by kernel_rfl) (by kernel_rfl) (by exact fun _ _ _ h => h) (by rfl) (by assumption) ?_
          try simp only [Act.put, List.setIfInBounds_toArray, List.set_cons_zero, List.set_cons_succ]
          refine takeV 8 rfl (by intro w h; clear h; go_simp; try with_reducible rfl) (by kernel_rfl) (by kernel_rfl) (by kernel_rfl) (by exact fun _ _ _ h => h) (by rfl) (by assumption) ?_
          try simp only [Act.put, List.setIfInBounds_toArray, List.set_cons_zero, List.set_cons_succ]
          refine takeV 9 rfl (by intro w h; have hc := (h.elim fun Z h => h.cell 1 rfl k3); clear h; go_simp; try with_reducible rfl) (by kernel_rfl) (by kernel_rfl) (by kernel_rfl) (by exact fun _ _ _ h => h) (by rfl) (by assumption) ?_
          try simp only [Act.put, List.setIfInBounds_toArray, List.set_cons_zero, List.set_cons_succ]
          refine takeV 10 rfl (by intro w h; clear h; go_simp; try with_reducible rfl) (by kernel_rfl) (by kernel_rfl) (by kernel_rfl) (by exact fun _ _ _ h => h) (by rfl) (by assumption) ?_
          try simp only [Act.put, List.setIfInBounds_toArray, List.set_cons_zero, List.set_cons_succ]
          refine takeV 11 rfl (by intro w h; clear h; go_simp; try with_reducible rfl) (by kernel_rfl) (by kernel_rfl) (by kernel_rfl) (by exact fun _ _ _ h => h) (by rfl) (by assumption) ?_
          try simp only [Act.put, List.setIfInBounds_toArray, List.set_cons_zero, List.set_cons_succ]
          refine takeV 12 rfl (by intro w h; clear h; go_simp; try with_reducible rfl) (by kernel_rfl) (by kernel_rfl) (by kernel_rfl) (by exact fun _ _ _ h => h) (by rfl) (by assumption) ?_
          try simp only [Act.put, List.setIfInBounds_toArray, List.set_cons_zero, List.set_cons_succ]
          refine takeV 13 rfl (by intro w h; have hc := (h.elim fun Z h => h.cell 1 rfl k1); clear h; go_simp; try with_reducible rfl) (by kernel_rfl) (by kernel_rfl) (by kernel_rfl) (by exact fun _ _ _ h => h) (by rfl) (by assumption) ?_
          try simp only [Act.put, List.setIfInBounds_toArray, List.set_cons_zero, List.set_cons_succ]
          refine takeV 14 rfl (by intro w h; clear h; go_simp; try with_reducible rfl) (by kernel_rfl) (by kernel_rfl) (by kernel_rfl) (by exact fun _ _ _ h => h) (by rfl) (by assumption) ?_
          try simp only [Act.put, List.setIfInBounds_toArray, List.set_cons_zero, List.set_cons_succ]
          refine take_call 15 rfl (by kernel_rfl) (fun K hK => ?_)
          refine step_copy_st rfl (.tmp 48) (.tmp 60) _ _ rfl 5 Try.underlying27 u8_size _ _ _ _ _ _ (by rfl) (by rfl) H 2 gO t _ _ (by rfl) (((y.b.drop y.p).take e).map vb) ?_ ?_ ?_ (vb_one _) ?_
          · rw [List.length_map, List.length_take, List.length_drop, HB2.out]; have := HK.out; show min e (200 - y.p) = min (x.r - y.p) (n - t); omega
          · exact fun _ => ⟨rfl, ⟨g, y.p, none⟩, by rw [if_neg (by omega)], fun j v hv => by rw [Addr.add_mid]; exact H.cell 1 rfl (chunk_at hv)⟩
          · rw [List.length_map, List.length_map, List.length_append, Sp.read_length, List.length_replicate, List.length_take, List.length_drop, HB2.out]; omega
          intro w5 H5
          replace H5 := H5.upd_mk (by simp)
          refine hK.out _ _ ?_ (fun hHeld => ?_)
          · exact ⟨_, H5⟩
          clear hK K
          try simp only [Act.put, List.setIfInBounds_toArray, List.set_cons_zero, List.set_cons_succ]
          rw [show (((y.b.drop y.p).take e).map vb).length = e by rw [List.length_map, List.length_take, List.length_drop, HB2.out]; omega]
          refine takeV 16 rfl (by intro w h; clear h; go_simp; try with_reducible rfl) (by kernel_rfl) (by kernel_rfl) (by kernel_rfl) (by exact fun _ _ _ h => h) (by rfl) (by assumption) ?_
          try simp only [Act.put, List.setIfInBounds_toArray, List.set_cons_zero, List.set_cons_succ]
          refine wpAnyH_done (by kernel_rfl) ?_ _
          have c2 := H5.cell 1 rfl k3
          have f2 := H5.free 1 rfl 202
          clear hHeld
          go_wp2
          go_roundw
          case rel => exact ⟨t + e, c', by omega, by go_num, ⟨by rw [HAG1.out]; show c' * x.r + (y.p + e) = _; have := HCY.out; omega, fun h => absurd h (by omega), fun _ => by rw [HAG1.out]; show 1 ≤ y.p + e; omega⟩, spread_end HAG1.out HRM1.out HB2.out (by omega) H5⟩
          case measure => simp [intOf]; omega
      · obtain rfl : n = t := by omega
        have hcc : Hid (c = (x.p + n - 1) / x.r) := count_end HC.out.1 (by have h := Sp.after_ok hxok.out hxs.out n; rw [← h.2.1]; exact h.1.pr) HC.out.2.1 HC.out.2.2 (by have := hxok.out.r8; omega) hxok.out.pr
        rw [Nat.sub_self, List.replicate_zero, List.append_nil] at H
        have H8 := (H.blkRow 2 rfl (n := n) (by rw [List.length_map, Sp.read_length]) (by simp only [maxLen]; omega)).upd_mk (by simp)
        rw [hcc.out, hrr.out, ← hxe.out, ← hce.out] at H8
        clear H HC
        go_wp2
        go_ret2
        exact ⟨_, rfl, St.two_more HIJ.out HI.out HJ.out HKK.out HB.out H8⟩

end

end Go.Proofs.Ytgjlclihgpahbaa

namespace Go.Proofs.Ytgjlclihgpahbaa
open Go.RowKit
set_option linter.unusedVariables false
set_option maxRecDepth 100000

attribute [local irreducible] permB kBytes kPerm kFrom

theorem zb_map : zb 200 = (List.replicate 200 (0 : UInt8)).map vb := by unfold zb; rw [List.map_replicate]; rfl

theorem zb200 : (List.replicate 200 (0 : UInt8)).length = 200 := List.length_replicate ..

theorem zbmap_len : ((List.replicate 200 (0 : UInt8)).map vb).length = 200 := by rw [List.length_map, zb200]

theorem step_append_grows {P : Program} (w : World) {ops : Array Oper} {o : Oper} {a : Act} {K : Act → World → Prop} {Q : Exit → Act → World → Prop} {X : Prop} (hg : o.guard = none) (s x : Operand) (t : TypeId) (hop : o.op = Op.call { callee := Callee.builtin Builtin.append, args := #[s, x], argTypes := #[t, t] })
    (e : TypeId) (i : TypeInfo) (z : Value) (size bytes : Nat) (h1 : P.underlying t = some (.slice e)) (h2 : P.info? e = some i) (h3 : i.zero = some z) (h4 : i.size = size) (h5 : i.bytes = bytes) (h6 : z.cells.size = size) (h7 : 0 < size)
    (b : Addr) (n cap : Nat) (olds : List Value) (hs : a.eval s = .slice (some b) n cap) (hlo : olds.length = n * size) (holds : ∀ j u, olds[j]? = some u → w.cell? (b.add j) = some u)
    (ad : Addr) (m c : Nat) (news : List Value) (hx : a.eval x = .slice (some ad) m c) (hn : news.length = m * size) (hc : ∀ j u, news[j]? = some u → w.cell? (ad.add j) = some u)
    (hfull : cap < n + m) (b1 : n + m ≤ maxLen) (b2 : (n + m) * bytes ≤ 140737488355328)
    (hK : ∀ v' w', w'.ownsRow w.heap.size e size v' (n + m) (olds ++ news) → w.grownBy w' none → K (a.put o.dst v') w') : if Region.wanted o (yielded ops a.tmps) = true then Oper.wp P o a w K Q else X := by
  rw [if_pos (by simp [Region.wanted, hg])]
  obtain ⟨v', w', hrun, r1, r2⟩ := run_append_arg_grows (P := P) w t o.type e i z size bytes h1 h2 h3 h4 h5 h6 h7 b n cap olds hlo holds ad m c news hn hc hfull b1 b2
  unfold Oper.wp
  simp [execOp, hop, resolve, invoke, builtin, hs, hx, hrun, Result.andThen]
  exact hK v' w' r1 r2

/-- a sponge's form -/
def Sp.form (x : Sp) : List UInt8 := x.b ++ [0, UInt8.ofNat x.p, if x.s = true then 1 else 0]

theorem Sp.form_length {x : Sp} (h : x.b.length = 200) : x.form.length = 203 := by unfold Sp.form; rw [List.length_append, h]; rfl

def spZero : List Value := (List.replicate 200 (0 : UInt8)).map vb ++ [.int .i64 0, .int .u8 0, .int .i64 0, .bool false]

def spZeroR : List Value := (List.replicate 200 (0 : UInt8)).map vb ++ [.int .i64 0, .int .u8 0, .int .i64 0, .bool false, .bool true]

theorem vs_one (x : Sp) : ∀ u ∈ x.vs, u.oneCell' = true := by
  intro u hu
  unfold Sp.vs at hu
  rcases List.mem_append.1 hu with h | h
  · exact vb_one _ u h
  · simp at h; rcases h with rfl | rfl | rfl | rfl <;> rfl

theorem vsR_one (x : Sp) : ∀ u ∈ x.vsR, u.oneCell' = true := by
  intro u hu
  unfold Sp.vsR at hu
  rcases List.mem_append.1 hu with h | h
  · exact vb_one _ u h
  · simp at h; rcases h with rfl | rfl | rfl | rfl | rfl <;> rfl

theorem below_front {xs : List Value} {n : Nat} (j : Nat) (v : Value) (h : (xs.take n)[j]? = some v) : xs[j]? = some v := by
  rw [List.getElem?_take] at h
  split at h
  · exact h
  · cases h

theorem zero_sp (w : World) : (zeroValue 71).run Try.prog w = .ok (.agg (zb 200 ++ [Value.int .i64 0, Value.int .u8 0, Value.int .i64 0, Value.bool false]).toArray) w := by kernel_rfl

theorem spZero_eq : (zb 200 ++ [Value.int .i64 0, Value.int .u8 0, Value.int .i64 0, Value.bool false]) = spZero := by rw [zb_map]; rfl

theorem spZero_one : ∀ u ∈ (zb 200 ++ [Value.int .i64 0, Value.int .u8 0, Value.int .i64 0, Value.bool false]), u.oneCell' = true := by
  rw [spZero_eq]
  intro u hu
  unfold spZero at hu
  rcases List.mem_append.1 hu with h | h
  · exact vb_one _ u h
  · simp at h; rcases h with rfl | rfl | rfl | rfl <;> rfl

theorem sp_size : (Try.prog.info? 71).map (·.size) = some 204 := by kernel_rfl

section
variable {w0 w : World} {F0 : List Nat} {E : Env}

theorem spNew_s (r : Int) (f : UInt8) (H : St w0 F0 w E) (k : Nat) (hk : E k = none) (h1 : 8 ≤ r) (h2 : r ≤ 192) (h3 : r % 8 = 0) :
    Calls Try.prog 7 #[.int .i64 r, .int .u8 (f.toNat : Int)] w fun e w' => ∃ g, e = .returned (.tuple #[lptr g, .int .i64 0]) ∧ St w0 F0 w' (upd E k (.blk g 71 (Sp.new r.toNat f).vs)) := by
  have hz0 := zero_sp
  have d1 : decide (r < 8) = false := by simp; omega
  have d2 : decide (r > 192) = false := by simp; omega
  have d3 : (r % 8 != 0) = false := by simp; omega
  have hr0 : 0 ≤ r := by omega
  have HR : Hid (((r.toNat : Nat) : Int) = r) := by unfold Hid; omega
  go_enter Try.func7, Try.ntmps7
  go_wp2
  go_ret2
  have e : ((zb 200 ++ [Value.int .i64 0, Value.int .u8 0, Value.int .i64 0, Value.bool false]).set 200 (Value.int .i64 r)).set 201 (Value.int .u8 (f.toNat : Int)) = (Sp.new r.toNat f).vs := by
    rw [zb_map, sp_put _ _ 0 _ zb200 rfl, sp_put _ _ 1 _ zb200 rfl]
    unfold Sp.new Sp.vs
    simp only [HR.out]
    rfl
  refine ⟨_, rfl, ?_⟩
  have H2 := H.alloc k hk (((zb 200 ++ [Value.int .i64 0, Value.int .u8 0, Value.int .i64 0, Value.bool false]).set 200 (Value.int .i64 r)).set 201 (Value.int .u8 (f.toNat : Int))).toArray 71
  rw [List.toList_toArray, e] at H2
  rw [← e]
  rw [← e] at H2
  exact H2

theorem spNew_no (r : Int) (f : UInt8) (h : r < 8 ∨ 192 < r ∨ r % 8 ≠ 0) :
    Calls Try.prog 7 #[.int .i64 r, .int .u8 (f.toNat : Int)] w fun e w' => e = .returned (.tuple #[.pointer none, .int .i64 2]) ∧ w = w' := by
  by_cases h1 : r < 8
  · have d1 : decide (r < 8) = true := by simp; omega
    clear h h1
    go_enter Try.func7, Try.ntmps7
    go_wp2
    go_ret2
    exact ⟨rfl, rfl⟩
  · by_cases h2 : 192 < r
    · have d1 : decide (r < 8) = false := by simp; omega
      have d2 : decide (r > 192) = true := by simp; omega
      clear h h1 h2
      go_enter Try.func7, Try.ntmps7
      go_wp2
      go_ret2
      exact ⟨rfl, rfl⟩
    · have d1 : decide (r < 8) = false := by simp; omega
      have d2 : decide (r > 192) = false := by simp; omega
      have d3 : (r % 8 != 0) = true := by simp; omega
      have hr0 : 0 ≤ r := by omega
      clear h h1 h2
      go_enter Try.func7, Try.ntmps7
      go_wp2
      go_ret2
      exact ⟨rfl, rfl⟩

set_option maxHeartbeats 1000000 in
theorem spClone_s (g : Nat) (x : Sp) (H : St w0 F0 w E) (j k : Nat) (hj : E j = some (.blk g 71 x.vs)) (hk : E k = none) (hx : x.Ok) :
    Calls Try.prog 43 #[lptr g] w fun e w' => ∃ g', e = .returned (.tuple #[lptr g', .int .i64 0]) ∧ St w0 F0 w' (upd E k (.blk g' 71 x.vs)) := by
  obtain ⟨k1, k2, k3, k4⟩ := Sp.cells hx.hb
  have h8 := hx.r8
  have c0 := H.cell j hj k1
  have HL := Lib.hid (Sp.vs_length hx.hb)
  clear k1 k2 k3 k4
  have hz0 := zero_sp
  have HH := Lib.hid H
  have HJ := Lib.hid hj
  have HK := Lib.hid hk
  clear hj hk hx
  go_enter Try.func43, Try.ntmps43
  go_wp2_with fail
  refine (spNone_no g x.r w c0 (by omega)).mono ?_
  rintro e w1 ⟨rfl, rfl⟩
  unfold lptr
  go_wp2_with (first | (refine wpList_load_row rfl 71 (.tmp 8) rfl g rfl _ _ _ _ (HH.out.blk j HJ.out) Try.underlying71 rfl (by rw [sp_size]; simp [HL.out]) ?_) | (refine wpList_store_mid rfl 71 (.tmp 4) (.tmp 9) rfl w.heap.size 0 x.vs.toArray rfl rfl (there_new _ _ _ _ (by simp [HL.out, zb_length])) (by rw [sp_size]; simp [HL.out]) (all_oneCell_toArray (vs_one x)) ?_; refine absorb_list (HH.out.alloc k HK.out (zb 200 ++ [Value.int .i64 0, Value.int .u8 0, Value.int .i64 0, Value.bool false]).toArray 71 |>.storeAll k upd_same (vs := x.vs) (by simp [HL.out, zb_length])) ?_; rw [upd_upd]; intro w4 H4))
  go_ret2
  exact ⟨_, rfl, H4⟩

set_option maxHeartbeats 1000000 in
theorem spWipe_s (l : Value) (r : Option (List RunT)) (m : Nat) (b : Int) (g : Nat) (x : Sp) (H : St w0 F0 w E) (i j : Nat) (hij : i ≠ j) (hi : E i = some (led l r)) (hj : E j = some (.blk g 71 x.vs)) (hg : LW r m b) (hm : m ≤ 999999999999) (hb : b ≤ 4000000000000000000) (hx : x.Ok) :
    Calls Try.prog 30 #[lptr g, l] w fun e w' => e = .returned (.int .i64 0) ∧ St w0 F0 w' (upd (upd E i (led l (noteN r 8 203 1))) j (.blk g 71 spZero)) := by
  obtain ⟨k1, k2, k3, k4⟩ := Sp.cells hx.hb
  have h8 := hx.r8
  have c0 := H.cell j hj k1
  have HL := Lib.hid (Sp.vs_length hx.hb)
  clear k1 k2 k3 k4
  have hz0 := zero_sp
  have HI := Lib.hid hi
  have HJ := Lib.hid hj
  have HG := Lib.hid hg
  have HIJ := Lib.hid hij
  clear hi hj hg hij hx
  go_enter Try.func30, Try.ntmps30
  go_wp2_with fail
  refine (spNone_no g x.r w c0 (by omega)).mono ?_
  rintro e w1 ⟨rfl, rfl⟩
  unfold lptr
  go_wp2_with fail
  refine (ledger_note_w m b 8 203 H i HI.out HG.out (by omega) (by omega)).mono ?_
  rintro e w3 ⟨rfl, H3⟩
  have HJ2 : Hid (upd E i (led l (noteN r 8 203 1)) j = some (.blk g 71 x.vs)) := by unfold Hid; rw [show upd E i (led l (noteN r 8 203 1)) j = E j from if_neg (Ne.symm HIJ.out)]; exact HJ.out
  go_wp2_with (refine wpList_store_mid rfl 71 (.tmp 12) (.tmp 11) rfl g 0 ((zb 200 ++ [Value.int .i64 0, Value.int .u8 0, Value.int .i64 0, Value.bool false])).toArray rfl rfl (by have h := H3.there j HJ2.out; rw [HL.out] at h; simpa [zb_length] using h) (by rw [sp_size]; simp [zb_length]) (all_oneCell_toArray spZero_one) ?_; refine absorb_list (H3.storeAll j HJ2.out (vs := (zb 200 ++ [Value.int .i64 0, Value.int .u8 0, Value.int .i64 0, Value.bool false])) (by simp [HL.out, zb_length])) ?_; rw [spZero_eq]; intro w4 H4)
  go_ret
  exact ⟨rfl, H4⟩

set_option maxHeartbeats 1000000 in
theorem spRate_s (g : Nat) (x : Sp) (H : St w0 F0 w E) (j : Nat) (hj : E j = some (.blk g 71 x.vs)) (hx : x.Ok) :
    Calls Try.prog 15 #[lptr g] w fun e w' => e = .returned (.int .i64 x.r) ∧ w = w' := by
  obtain ⟨k1, k2, k3, k4⟩ := Sp.cells hx.hb
  have h8 := hx.r8
  have c0 := H.cell j hj k1
  clear k1 k2 k3 k4 hx hj H
  go_enter Try.func15, Try.ntmps15
  unfold lptr
  go_wp2
  go_ret
  exact ⟨rfl, rfl⟩

theorem spShut_s (g : Nat) (x : Sp) (H : St w0 F0 w E) (j : Nat) (hj : E j = some (.blk g 71 x.vs)) (hx : x.Ok) :
    Calls Try.prog 12 #[lptr g] w fun e w' => e = .returned (.bool x.s) ∧ w = w' := by
  obtain ⟨k1, k2, k3, k4⟩ := Sp.cells hx.hb
  have h8 := hx.r8
  have c0 := H.cell j hj k1
  have c3 := H.cell j hj k4
  clear k1 k2 k3 k4 hx hj H
  go_enter Try.func12, Try.ntmps12
  unfold lptr
  go_wp2
  go_ret
  exact ⟨rfl, rfl⟩

end

end Go.Proofs.Ytgjlclihgpahbaa

namespace Go.Proofs.Ytgjlclihgpahbaa
open Go.RowKit
set_option linter.unusedVariables false
set_option maxRecDepth 100000

/-- no sponge: nil, or one whose memory is noughts -/
def SpNo (w : World) (s : Value) : Prop := s = .pointer none ∨ ∃ g, s = lptr g ∧ w.cell? ⟨g, 200, none⟩ = some (.int .i64 0) ∧ w.cell? ⟨g, 203, none⟩ = some (.bool false)

section
variable {w : World}

theorem spRead_none (l : Value) (n : Int) (s : Value) (h : SpNo w s) : Calls Try.prog 9 #[s, l, .int .i64 n] w fun e w' => e = .returned (.tuple #[.slice none 0 0, .int .i64 1]) ∧ w = w' := by
  rcases h with rfl | ⟨g, rfl, c0, c3⟩
  · go_enter Try.func9, Try.ntmps9
    go_wp2_with fail
    refine (spNone_nil w).mono ?_
    rintro e w1 ⟨rfl, rfl⟩
    go_wp2
    go_ret2
    exact ⟨rfl, rfl⟩
  · unfold lptr
    go_enter Try.func9, Try.ntmps9
    go_wp2_with fail
    refine (spNone_yes g w c0).mono ?_
    rintro e w1 ⟨rfl, rfl⟩
    go_wp2
    go_ret2
    exact ⟨rfl, rfl⟩

theorem spClone_none  (s : Value) (h : SpNo w s) : Calls Try.prog 43 #[s] w fun e w' => e = .returned (.tuple #[.pointer none, .int .i64 1]) ∧ w = w' := by
  rcases h with rfl | ⟨g, rfl, c0, c3⟩
  · go_enter Try.func43, Try.ntmps43
    go_wp2_with fail
    refine (spNone_nil w).mono ?_
    rintro e w1 ⟨rfl, rfl⟩
    go_wp2
    go_ret2
    exact ⟨rfl, rfl⟩
  · unfold lptr
    go_enter Try.func43, Try.ntmps43
    go_wp2_with fail
    refine (spNone_yes g w c0).mono ?_
    rintro e w1 ⟨rfl, rfl⟩
    go_wp2
    go_ret2
    exact ⟨rfl, rfl⟩

theorem spWrite_none (l v : Value) (s : Value) (h : SpNo w s) : Calls Try.prog 14 #[s, l, v] w fun e w' => e = .returned (.int .i64 1) ∧ w = w' := by
  rcases h with rfl | ⟨g, rfl, c0, c3⟩
  · go_enter Try.func14, Try.ntmps14
    go_wp2_with fail
    refine (spNone_nil w).mono ?_
    rintro e w1 ⟨rfl, rfl⟩
    go_wp2
    go_ret
    exact ⟨rfl, rfl⟩
  · unfold lptr
    go_enter Try.func14, Try.ntmps14
    go_wp2_with fail
    refine (spNone_yes g w c0).mono ?_
    rintro e w1 ⟨rfl, rfl⟩
    go_wp2
    go_ret
    exact ⟨rfl, rfl⟩

theorem spClose_none (l : Value) (s : Value) (h : SpNo w s) : Calls Try.prog 8 #[s, l] w fun e w' => e = .returned (.int .i64 1) ∧ w = w' := by
  rcases h with rfl | ⟨g, rfl, c0, c3⟩
  · go_enter Try.func8, Try.ntmps8
    go_wp2_with fail
    refine (spNone_nil w).mono ?_
    rintro e w1 ⟨rfl, rfl⟩
    go_wp2
    go_ret
    exact ⟨rfl, rfl⟩
  · unfold lptr
    go_enter Try.func8, Try.ntmps8
    go_wp2_with fail
    refine (spNone_yes g w c0).mono ?_
    rintro e w1 ⟨rfl, rfl⟩
    go_wp2
    go_ret
    exact ⟨rfl, rfl⟩

theorem spWipe_none (l : Value) (s : Value) (h : SpNo w s) : Calls Try.prog 30 #[s, l] w fun e w' => e = .returned (.int .i64 1) ∧ w = w' := by
  rcases h with rfl | ⟨g, rfl, c0, c3⟩
  · go_enter Try.func30, Try.ntmps30
    go_wp2_with fail
    refine (spNone_nil w).mono ?_
    rintro e w1 ⟨rfl, rfl⟩
    go_wp2
    go_ret
    exact ⟨rfl, rfl⟩
  · unfold lptr
    go_enter Try.func30, Try.ntmps30
    go_wp2_with fail
    refine (spNone_yes g w c0).mono ?_
    rintro e w1 ⟨rfl, rfl⟩
    go_wp2
    go_ret
    exact ⟨rfl, rfl⟩

theorem spForm_none  (s : Value) (h : SpNo w s) : Calls Try.prog 22 #[s] w fun e w' => e = .returned (.slice none 0 0) ∧ w = w' := by
  rcases h with rfl | ⟨g, rfl, c0, c3⟩
  · go_enter Try.func22, Try.ntmps22
    go_wp2_with fail
    refine (spNone_nil w).mono ?_
    rintro e w1 ⟨rfl, rfl⟩
    go_wp2
    go_ret
    exact ⟨rfl, rfl⟩
  · unfold lptr
    go_enter Try.func22, Try.ntmps22
    go_wp2_with fail
    refine (spNone_yes g w c0).mono ?_
    rintro e w1 ⟨rfl, rfl⟩
    go_wp2
    go_ret
    exact ⟨rfl, rfl⟩

theorem spRate_none  (s : Value) (h : SpNo w s) : Calls Try.prog 15 #[s] w fun e w' => e = .returned (.int .i64 0) ∧ w = w' := by
  rcases h with rfl | ⟨g, rfl, c0, c3⟩
  · go_enter Try.func15, Try.ntmps15
    go_wp2
    go_ret
    exact ⟨rfl, rfl⟩
  · unfold lptr
    go_enter Try.func15, Try.ntmps15
    go_wp2
    go_ret
    exact ⟨rfl, rfl⟩

theorem spShut_none  (s : Value) (h : SpNo w s) : Calls Try.prog 12 #[s] w fun e w' => e = .returned (.bool false) ∧ w = w' := by
  rcases h with rfl | ⟨g, rfl, c0, c3⟩
  · go_enter Try.func12, Try.ntmps12
    go_wp2
    go_ret
    exact ⟨rfl, rfl⟩
  · unfold lptr
    go_enter Try.func12, Try.ntmps12
    go_wp2
    go_ret
    exact ⟨rfl, rfl⟩

end

end Go.Proofs.Ytgjlclihgpahbaa

namespace Go.Proofs.Ytgjlclihgpahbaa
open Go.RowKit
set_option linter.unusedVariables false

theorem pick_any (x : Int) (N : Nat) (w : World) (h1 : -9223372036854775808 ≤ x) (h2 : x ≤ 9223372036854775807) (hN1 : 1 ≤ N) (hN : N ≤ 1099511627776) {b : Int} (hb : b = (N : Int)) :
    Calls Try.prog 20 #[.int .i64 x, .int .i64 b] w fun e w' => (∃ n : Nat, n < N ∧ (n : Int) = x % (N : Int) ∧ e = .returned (.int .i64 (n : Int))) ∧ w = w' := by
  subst hb
  have h4 := Int.emod_nonneg x (show (N : Int) ≠ 0 by omega)
  have h5 := Int.emod_lt_of_pos x (show (0 : Int) < N by omega)
  have hr : x.tmod N = x % N ∨ x.tmod N = x % N - N := by
    rw [Int.tmod_eq_emod (a := x) (b := (N : Int))]
    split
    · left; simp
    · right; simp
  generalize x % (N : Int) = y at *
  obtain ⟨r, hr'⟩ : ∃ r, x.tmod N = r := ⟨_, rfl⟩
  rw [hr'] at hr
  have HM : Hid (y = if r < 0 then r + N else r) := by unfold Hid; split <;> omega
  have hlt : r < N := by omega
  have hgt : -(N : Int) ≤ r := by omega
  clear hr h4 h5
  by_cases hneg : r < 0
  · have HY : Hid (y = r + N) := by have h := HM.out; rw [if_pos hneg] at h; exact h
    clear HM
    go_enter Try.func20, Try.ntmps20
    go_wp2
    go_ret
    exact ⟨⟨(r + N).toNat, by omega, by rw [HY.out]; omega, by go_num⟩, rfl⟩
  · have HY : Hid (y = r) := by have h := HM.out; rw [if_neg hneg] at h; exact h
    clear HM
    go_enter Try.func20, Try.ntmps20
    go_wp2
    go_ret
    exact ⟨⟨r.toNat, by omega, by rw [HY.out]; omega, by go_num⟩, rfl⟩
end Go.Proofs.Ytgjlclihgpahbaa

namespace Go.Proofs.Ytgjlclihgpahbaa
open Go.RowKit
set_option linter.unusedVariables false

def ledRO (g : Nat) (rs : List RunT) : Own := .ex fun v => .sep (.blk g 79 [v]) (.row 43 3 v rs.length (runsV rs))

theorem ledR_close {w0 w : World} {F0 : List Nat} {E : Env} {g n : Nat} {v : Value} {xs : List Value} (rs : List RunT) (H : St w0 F0 w E) (h0 : E 0 = some (.blk g 79 [v])) (h1 : E 1 = some (.row 43 3 v n xs)) (hn : n = rs.length) (hx : xs = runsV rs) : St w0 F0 w (one (ledRO g rs)) := by
  subst hn hx
  refine ((H.join 0 1 (by omega) h0 h1).shutEx (A := fun v => .sep (.blk g 79 [v]) (.row 43 3 v rs.length (runsV rs))) v 0 (by simp [upd])).sub fun k A hA => ?_
  by_cases hk : k = 0
  · subst hk; simp only [one, upd, if_true] at hA ⊢; exact hA
  · simp [one, upd, hk, Env.nil] at hA

set_option maxHeartbeats 1000000 in
theorem refNoteTimes_nil {F : List Nat} {w : World} (g : Nat) (k s n : Int) (HF : St w F w (one (ledRO g []))) (hn : 1 ≤ n) (hb : n ≤ 4611686018427387904) :
    Calls Try.prog 66 #[lptr g, .agg #[.int .u8 k, .int .i64 s], .int .i64 n] w fun e w' => e = .returned (.tuple #[]) ∧ St w F w' (one (ledRO g [(k, s, n)])) := by
  obtain ⟨i0, hi0, hz0, hz1, hz2⟩ := info_parts run_info
  obtain ⟨v, H1⟩ := HF.openEx 0 rfl
  have H2 := H1.part 0 1 (by omega) rfl rfl
  clear HF H1
  obtain ⟨A, c, rfl, hc, -⟩ := row_shape (H2.row 1 rfl)
  have c0 := H2.cell 0 rfl (o := 0) rfl
  have f0 := H2.free 0 rfl 0
  have hg := H2.lt 0 rfl
  have hn1 : ¬ n < 1 := by omega
  unfold lptr
  go_enter Try.func66, Try.ntmps66
  go_wp2
  go_quiet (fail)
  go_wp2
  have H3 := (H2.allocAt 2 rfl w.heap.size rfl #[.int .u8 k, .int .i64 s] 41).drewN nq
  clear c0 f0 hg H2
  generalize hw3 : (w.alloc (.cells #[.int .u8 k, .int .i64 s] 41)).drewN nq = w3 at H3 ⊢
  clear hw3
  generalize w.heap.size = b at H3 ⊢
  have c0 := H3.cell 0 rfl (o := 0) rfl
  have c1 := H3.cell 2 rfl (o := 0) rfl
  have c2 := H3.cell 2 rfl (o := 1) rfl
  have f0 := H3.free 0 rfl 0
  have hg := H3.lt 0 rfl
  have hb := H3.lt 2 rfl
  have hr := H3.row 1 rfl
  go_region_law (refine step_append_any _ (by rfl) (.tmp 54) (.tmp 58) _ (by rfl) 0 43 i0 (.agg #[.int .u8 0, .int .i64 0, .int .i64 0]) 3 24 Try.underlying37 hi0 hz0 hz1 hz2 rfl (by omega) (.slice A 0 c) 0 [] (by rfl) ((hr.alloc _)) (some ⟨w3.heap.size, 0, none⟩) 1 1 [.int .u8 k, .int .i64 s, .int .i64 n] (by rfl) (rd_new _ _ _ 3 rfl) (by simp [Value.oneCell']) (by simp only [maxLen]; omega) (by omega) (by omega) ?_; intro v1 w1 hown1 hg1 hat1; obtain ⟨A1, d1, rfl, hd1, -⟩ := row_shape hown1; have H4 := ((H3.alloc 3 rfl #[.int .u8 k, .int .i64 s, .int .i64 n] 43).drew).grow 1 rfl hown1 hg1 hat1; have k0 := H4.cell 0 rfl (o := 0) rfl; have k1 := H4.cell 2 rfl (o := 0) rfl; have k2 := H4.cell 2 rfl (o := 1) rfl; have k3 := H4.free 0 rfl 0)
  all_goals go_wp2
  all_goals go_end0
  all_goals exact ⟨rfl, ledR_close [(k, s, n)] (H4.store 0 rfl (o := 0) (u := .slice A1 1 d1)) rfl rfl rfl rfl⟩

set_option maxHeartbeats 1000000 in
theorem refNoteTimes_same {F : List Nat} {w : World} (g m : Nat) (rs : List RunT) (k s c n : Int) (hm : rs.length = m + 1) (hr : rs[m]? = some (k, s, c)) (HF : St w F w (one (ledRO g rs))) (hn : 1 ≤ n) (hb : n ≤ 4611686018427387904) (hc0 : 0 ≤ c) (hc : c + n ≤ 4611686018427387904) (ht : 0 ≤ total rs) (ht' : total rs + n ≤ 4611686018427387904) (hl : m ≤ 1000000000000) :
    Calls Try.prog 66 #[lptr g, .agg #[.int .u8 k, .int .i64 s], .int .i64 n] w fun e w' => e = .returned (.tuple #[]) ∧ St w F w' (one (ledRO g (rs.set m (k, s, c + n)))) := by
  obtain ⟨v, H1⟩ := HF.openEx 0 rfl
  have H2 := H1.part 0 1 (by omega) rfl rfl
  clear HF H1
  obtain ⟨A, d, rfl, hd, hA⟩ := row_shape (H2.row 1 rfl)
  obtain ⟨g', rfl, -⟩ := hA (by omega)
  clear hA
  have c0 := H2.cell 0 rfl (o := 0) rfl
  have f0 := H2.free 0 rfl 0
  have hg := H2.lt 0 rfl
  have hn1 : ¬ n < 1 := by omega
  rw [hm] at c0
  have HM := Lib.hid hm
  have HR := Lib.hid hr
  clear hm hr
  unfold lptr
  go_enter Try.func66, Try.ntmps66
  go_wp2
  have H3 := (H2.allocAt 2 rfl w.heap.size rfl #[.int .u8 k, .int .i64 s] 41)
  clear c0 f0 hg H2
  generalize hw3 : (w.alloc (.cells #[.int .u8 k, .int .i64 s] 41)) = w3 at H3 ⊢
  clear hw3
  generalize w.heap.size = b at H3 ⊢
  have c0 := H3.cell 0 rfl (o := 0) rfl
  rw [HM.out] at c0
  have c1 := H3.cell 2 rfl (o := 0) rfl
  have c2 := H3.cell 2 rfl (o := 1) rfl
  obtain ⟨r0, r1, r2, fr⟩ := run_cells (H3.row 1 rfl) HR.out
  have hi : IntKind.i64.wrap (m : Int) = (m : Int) := IntWalk.i64_in _ (by omega)
  have hi3 : (0 : Int) ≤ (m : Int) := by omega
  go_quiet (fail)
  clear hi
  go_wp2
  refine region_quiet_tail 17 (by kernel_rfl) (by kernel_rfl) ?_
  simp only [List.take_succ_cons, List.take_zero, List.drop_succ_cons, List.drop_zero]
  repeat (go_big_quiet_step (fail))
  refine wpQuiet_nil ?_
  intro nq2
  go_wp2
  refine bodyPost_ret (results_none rfl _ _ _) rfl ⟨rfl, ?_⟩
  exact ledR_close _ ((H3.drewN (nq + nq2)).rowStore 1 rfl (o := m * 3 + 2) (u := .int .i64 (c + n))) rfl rfl (by rw [List.length_set]) (runsV_set rs m _ _ HR.out)

set_option maxHeartbeats 1000000 in
theorem refNoteTimes_other {F : List Nat} {w : World} (g m : Nat) (rs : List RunT) (k s k' s' c n : Int) (hm : rs.length = m + 1) (hr : rs[m]? = some (k', s', c)) (hne : ¬ (k' = k ∧ s' = s)) (HF : St w F w (one (ledRO g rs))) (hn : 1 ≤ n) (hb : n ≤ 4611686018427387904) (ht : 0 ≤ total rs) (ht' : total rs + n ≤ 4611686018427387904) (hl : m ≤ 1000000000000) :
    Calls Try.prog 66 #[lptr g, .agg #[.int .u8 k, .int .i64 s], .int .i64 n] w fun e w' => e = .returned (.tuple #[]) ∧ St w F w' (one (ledRO g (rs ++ [(k, s, n)]))) := by
  obtain ⟨v, H1⟩ := HF.openEx 0 rfl
  have H2 := H1.part 0 1 (by omega) rfl rfl
  clear HF H1
  obtain ⟨A, d, rfl, hd, hA⟩ := row_shape (H2.row 1 rfl)
  obtain ⟨g', rfl, -⟩ := hA (by omega)
  clear hA
  have c0 := H2.cell 0 rfl (o := 0) rfl
  have f0 := H2.free 0 rfl 0
  have hg := H2.lt 0 rfl
  have hn1 : ¬ n < 1 := by omega
  rw [hm] at c0
  have HM := Lib.hid hm
  have HR := Lib.hid hr
  have HN := Lib.hid hne
  clear hm hr hne
  unfold lptr
  go_enter Try.func66, Try.ntmps66
  go_wp2
  have H3 := (H2.allocAt 2 rfl w.heap.size rfl #[.int .u8 k, .int .i64 s] 41)
  clear c0 f0 hg H2
  generalize hw3 : (w.alloc (.cells #[.int .u8 k, .int .i64 s] 41)) = w3 at H3 ⊢
  clear hw3
  generalize w.heap.size = b at H3 ⊢
  have c0 := H3.cell 0 rfl (o := 0) rfl
  rw [HM.out] at c0
  have c1 := H3.cell 2 rfl (o := 0) rfl
  have c2 := H3.cell 2 rfl (o := 1) rfl
  obtain ⟨r0, r1, r2, fr⟩ := run_cells (H3.row 1 rfl) HR.out
  have hi : IntKind.i64.wrap (m : Int) = (m : Int) := IntWalk.i64_in _ (by omega)
  have hi2 : (m : Int) < (m : Int) + 1 := by omega
  have hi3 : (0 : Int) ≤ (m : Int) := by omega
  have hq : (k' == k) = false ∨ (k' = k ∧ (s' == s) = false) := by
    by_cases hk : k' = k
    · exact .inr ⟨hk, by simpa using fun h => HN.out ⟨hk, h⟩⟩
    · exact .inl (by simpa using hk)
  rcases hq with hq | ⟨hq0, hq⟩
  all_goals
    try (have hq1 := hq0.symm; subst hq1)
    go_quiet (fail)
    clear hi hi2 hi3 hq
    go_wp2
    have H4 := H3.drewN nq
    clear c0 c1 c2 r0 r1 r2 fr H3
    generalize w3.drewN nq = w4 at H4 ⊢
    obtain ⟨i0, hi0, hz0, hz1, hz2⟩ := info_parts run_info
    have c0 := H4.cell 0 rfl (o := 0) rfl
    rw [HM.out] at c0
    have c1 := H4.cell 2 rfl (o := 0) rfl
    have c2 := H4.cell 2 rfl (o := 1) rfl
    have f0 := H4.free 0 rfl 0
    have hg := H4.lt 0 rfl
    have hbb := H4.lt 2 rfl
    have hr := H4.row 1 rfl
    rw [HM.out] at hr
    go_region_law (refine step_append_any _ (by rfl) (.tmp 54) (.tmp 58) _ (by rfl) 0 43 i0 (.agg #[.int .u8 0, .int .i64 0, .int .i64 0]) 3 24 Try.underlying37 hi0 hz0 hz1 hz2 rfl (by omega) (.slice (some ⟨g', 0, none⟩) (m + 1) d) (m + 1) (runsV rs) (by rfl) ((hr.alloc _)) (some ⟨w4.heap.size, 0, none⟩) 1 1 [.int .u8 k, .int .i64 s, .int .i64 n] (by rfl) (rd_new _ _ _ 3 rfl) (by simp [Value.oneCell']) (by simp only [maxLen]; omega) (by omega) (by omega) ?_; intro v1 w1 hown1 hg1 hat1; obtain ⟨A1, d1, rfl, hd1, -⟩ := row_shape hown1; have H5 := ((H4.alloc 3 rfl #[.int .u8 k, .int .i64 s, .int .i64 n] 43).drew).grow 1 rfl hown1 hg1 hat1; have k0 := H5.cell 0 rfl (o := 0) rfl; have k3 := H5.free 0 rfl 0)
    all_goals go_wp2
    all_goals go_end0
    all_goals exact ⟨rfl, ledR_close (rs ++ [(k, s, n)]) (H5.store 0 rfl (o := 0) (u := .slice A1 (m + 1 + 1) d1)) rfl rfl (by simp [HM.out]) (by rw [runsV_append]; rfl)⟩

/-- Of any ledger that is one: an event is noted. -/
theorem refNoteTimes_led {F : List Nat} {w : World} (g : Nat) (rs : List RunT) (k s n : Int) (HF : St w F w (one (ledRO g rs))) (hn : 1 ≤ n) (hb : n ≤ 4611686018427387904) (h0 : ∀ r ∈ rs, 0 ≤ r.2.2) (ht' : total rs + n ≤ 4611686018427387904) (hl : rs.length ≤ 1000000000000) :
    Calls Try.prog 66 #[lptr g, .agg #[.int .u8 k, .int .i64 s], .int .i64 n] w fun e w' => e = .returned (.tuple #[]) ∧ St w F w' (one (ledRO g (noted rs k s n))) := by
  have ht := total_nonneg rs h0
  rcases Nat.eq_zero_or_pos rs.length with hz | hz
  · have : rs = [] := List.length_eq_zero_iff.1 hz
    subst this
    rw [noted_nil]
    exact refNoteTimes_nil g k s n HF hn hb
  · obtain ⟨m, hm⟩ : ∃ m, rs.length = m + 1 := ⟨rs.length - 1, by omega⟩
    obtain ⟨r, hr⟩ : ∃ r, rs[m]? = some r := ⟨rs[m], List.getElem?_eq_getElem (by omega)⟩
    obtain ⟨k', s', c⟩ := r
    have hc0 := h0 _ (List.mem_of_getElem? hr)
    have hc1 := total_ge rs h0 _ (List.mem_of_getElem? hr)
    by_cases he : k' = k ∧ s' = s
    · obtain ⟨rfl, rfl⟩ := he
      rw [noted_same rs m _ _ c n hm hr]
      exact refNoteTimes_same g m rs _ _ c n hm hr HF hn hb hc0 (by simp only at hc1; omega) ht ht' (by omega)
    · rw [noted_other rs m k s k' s' c n hm hr he]
      exact refNoteTimes_other g m rs k s k' s' c n hm hr he HF hn hb ht ht' (by omega)

/-- the document's ledger, or none -/
def ledR (l : Value) : Option (List RunT) → Own
  | none => .fact (l = .pointer none) .emp
  | some rs => .ex fun g => .fact (l = lptr g) (ledRO g rs)

section
variable {w0 w : World} {F0 : List Nat} {E : Env}

theorem St.ledRNil (H : St w0 F0 w E) (k : Nat) (hk : E k = Option.none) : St w0 F0 w (upd E k (ledR (.pointer none) none)) :=
  by have h := (H.nothing k hk).shutFact (p := Value.pointer none = Value.pointer none) rfl k upd_same; rw [upd_upd] at h; exact h

theorem St.ledROpen {l : Value} {rs : List RunT} (H : St w0 F0 w E) (i : Nat) (hi : E i = some (ledR l (some rs))) : ∃ g, l = lptr g ∧ St w0 F0 w (upd E i (ledRO g rs)) := by
  obtain ⟨g, H1⟩ := H.openEx i hi
  obtain ⟨h, H2⟩ := H1.openFact i upd_same
  simp only [upd_upd] at H2
  exact ⟨g, h, H2⟩

theorem St.ledRShut {rs : List RunT} {g : Nat} (H : St w0 F0 w E) (i : Nat) (hi : E i = some (ledRO g rs)) : St w0 F0 w (upd E i (ledR (lptr g) (some rs))) := by
  have H1 := H.shutFact (p := lptr g = lptr g) rfl i hi
  have H2 := H1.shutEx (A := fun g' => .fact (lptr g = lptr g') (ledRO g' rs)) g i upd_same
  simp only [upd_upd] at H2
  exact H2

theorem St.ledRRead {l : Value} {rs : List RunT} (H : St w0 F0 w E) (i : Nat) (hi : E i = some (ledR l (some rs))) :
    ∃ g A c, l = lptr g ∧ g < w.heap.size ∧ w.cell? ⟨g, 0, none⟩ = some (.slice A rs.length c) ∧ Rd w 3 A rs.length (runsV rs) := by
  obtain ⟨F, ⟨g, hl, v, G, K, eF, ⟨hb, -⟩, ⟨hr, -⟩, -⟩, -⟩ := H.change i hi
  obtain ⟨A, c, rfl, -, -⟩ := row_shape hr
  exact ⟨g, A, c, hl, lt_of_heap hb, by rw [cell_of_row w g 0 _ _ _ hb]; rfl, Rd.of_own hr⟩

theorem refLedger_new (H : St w0 F0 w E) (k : Nat) (hk : E k = Option.none) : Calls Try.prog 24 #[] w fun e w' => ∃ v, e = .returned v ∧ St w0 F0 w' (upd E k (ledR v (some []))) := by
  go_enter Try.func24, Try.ntmps24
  go_wp2
  go_ret
  refine ⟨_, rfl, ?_⟩
  have ho : (ledRO w.heap.size []).holds (w.alloc (.cells #[.slice none 0 0] 79)) [w.heap.size] :=
    ⟨.slice none 0 0, [w.heap.size], [], rfl, ⟨by rw [heap_alloc_new], rfl⟩, ⟨World.ownsRow_nil _ _ _ _, rfl⟩, by simp⟩
  have H1 := H.push k hk ((Below.refl _ _).alloc (Nat.le_refl _) _) ho (by simp)
  have H2 := H1.ledRShut k upd_same
  simp only [upd_upd] at H2
  exact H2

theorem refNoteTimes_zero (l : Value) (k s : Int) (hl : l = .pointer none ∨ ∃ g, l = lptr g) : Calls Try.prog 66 #[l, .agg #[.int .u8 k, .int .i64 s], .int .i64 0] w fun e w' => e = .returned (.tuple #[]) ∧ Below w.heap.size w w' := by
  rcases hl with rfl | ⟨g, rfl⟩
  · go_enter Try.func66, Try.ntmps66
    go_wp2
    refine bodyPost_ret (results_none rfl _ _ _) rfl ⟨rfl, ?_⟩
    exact (Below.refl _ _).alloc (Nat.le_refl _) _
  · unfold lptr
    go_enter Try.func66, Try.ntmps66
    go_wp2
    refine bodyPost_ret (results_none rfl _ _ _) rfl ⟨rfl, ?_⟩
    exact (Below.refl _ _).alloc (Nat.le_refl _) _

theorem refNoteTimes_null (k s n : Int) : Calls Try.prog 66 #[.pointer none, .agg #[.int .u8 k, .int .i64 s], .int .i64 n] w fun e w' => e = .returned (.tuple #[]) ∧ Below w.heap.size w w' := by
  go_enter Try.func66, Try.ntmps66
  go_wp2
  refine bodyPost_ret (results_none rfl _ _ _) rfl ⟨rfl, ?_⟩
  exact (Below.refl _ _).alloc (Nat.le_refl _) _

/-- an event so many times, none perhaps -/
theorem refNoteTimes_w {l : Value} {r : Option (List RunT)} (m : Nat) (b k s : Int) (n : Nat) (N : Int) (hN : N = n) (H : St w0 F0 w E) (i : Nat) (hi : E i = some (ledR l r)) (hg : LW r m b) (hm : m ≤ 1000000000000) (hb : b + n ≤ 4611686018427387904) (hn : n ≤ 4611686018427387904) :
    Calls Try.prog 66 #[l, .agg #[.int .u8 k, .int .i64 s], .int .i64 N] w fun e w' => e = .returned (.tuple #[]) ∧ St w0 F0 w' (upd E i (ledR l (noteN r k s n))) := by
  subst hN
  cases r with
  | none =>
    obtain ⟨rfl, H1⟩ := H.openFact i hi
    refine (refNoteTimes_null k s n).mono ?_
    rintro e w1 ⟨rfl, hb1⟩
    have H2 := H.call hb1
    refine ⟨rfl, ?_⟩
    have e : noteN none k s n = none := by unfold noteN; split <;> rfl
    rw [e, upd_id hi]
    exact H2
  | some rs =>
    rcases Nat.eq_zero_or_pos n with rfl | hp
    · obtain ⟨g, hl, -⟩ := H.ledROpen i hi
      refine (refNoteTimes_zero l k s (.inr ⟨g, hl⟩)).mono ?_
      rintro e w1 ⟨rfl, hb1⟩
      exact ⟨rfl, by rw [noteN_zero, upd_id hi]; exact H.call hb1⟩
    · obtain ⟨g, rfl, H1⟩ := H.ledROpen i hi
      obtain ⟨h1, hl, h2⟩ := hg rs rfl
      have h0 : ∀ r ∈ rs, 0 ≤ r.2.2 := fun r hr => by have := h1 r hr; omega
      obtain ⟨F, HF, -, -, hback⟩ := H1.frame1 i upd_same
      refine (refNoteTimes_led g rs k s n HF (by omega) (by omega) h0 (by omega) (by omega)).mono ?_
      rintro e w1 ⟨rfl, hs⟩
      have H3 := (hback _ _ hs).ledRShut i upd_same
      simp only [upd_upd] at H3
      refine ⟨rfl, ?_⟩
      unfold noteN
      rw [if_neg (by omega)]
      exact H3

set_option maxHeartbeats 400000 in
theorem refNote_w {l : Value} {r : Option (List RunT)} (m : Nat) (b k s : Int) (H : St w0 F0 w E) (i : Nat) (hi : E i = some (ledR l r)) (hg : LW r m b) (hm : m ≤ 1000000000000) (hb : b ≤ 4611686018427387903) :
    Calls Try.prog 56 #[l, .agg #[.int .u8 k, .int .i64 s]] w fun e w' => e = .returned (.tuple #[]) ∧ St w0 F0 w' (upd E i (ledR l (noteN r k s 1))) := by
  have hl : l = .pointer none ∨ ∃ g, l = lptr g := by
    cases r with
    | none => exact .inl (H.openFact i hi).1
    | some rs => obtain ⟨g, h, -⟩ := H.ledROpen i hi; exact .inr ⟨g, h⟩
  have H2 := H.call ((Below.refl _ _).alloc (Nat.le_refl _) (.cells #[.int .u8 k, .int .i64 s] 41))
  have hc := refNoteTimes_w m b k s 1 1 rfl H2 i hi hg hm (by omega) (by omega)
  have HC := Lib.hid hc
  clear hc H2 H
  rcases hl with rfl | ⟨g, rfl⟩
  all_goals
    (try unfold lptr at HC ⊢)
    go_enter Try.func56, Try.ntmps56
    go_wp2_with fail
    refine HC.out.mono ?_
    rintro e w1 ⟨rfl, hs⟩
    go_wp2
    go_end0
    exact ⟨rfl, hs⟩

theorem hold_here' {p : Prop} (h : Hid p) : p := h

theorem St.rdBlk {w0 w : World} {F0 : List Nat} {E : Env} {g : Nat} {T : TypeId} {cs : List Value} (H : St w0 F0 w E) (k : Nat) (hk : E k = some (.blk g T cs)) (size n : Nat) (hl : cs.length = n * size) : Rd w size (some ⟨g, 0, none⟩) n cs :=
  ⟨hl, fun _ => ⟨_, rfl, H.lt k hk, fun j u hu => by rw [Addr.add_mid, Nat.zero_add]; exact H.cell k hk hu⟩⟩

theorem total_take_succ {rs : List RunT} {j : Nat} {x : RunT} (h : rs[j]? = some x) : total (rs.take (j + 1)) = total (rs.take j) + x.2.2 := by
  rw [List.take_add_one, h, total_append]
  simp [total]

theorem total_take_le {rs : List RunT} (h : ∀ x ∈ rs, 0 ≤ x.2.2) (j : Nat) : 0 ≤ total (rs.take j) ∧ total (rs.take j) ≤ total rs := by
  have h1 := total_nonneg (rs.take j) fun x hx => h x (List.mem_of_mem_take hx)
  have h2 := total_nonneg (rs.drop j) fun x hx => h x (List.mem_of_mem_drop hx)
  have h3 := total_append (rs.take j) (rs.drop j)
  rw [List.take_append_drop] at h3
  omega

theorem runsV_snoc {rs : List RunT} {j : Nat} {x : RunT} (h : rs[j]? = some x) : runsV (rs.take (j + 1)) = runsV (rs.take j) ++ runV x := by
  rw [List.take_add_one, h, runsV_append]
  simp [runsV]

set_option maxHeartbeats 1000000 in
/-- how many events the document's ledger has -/
theorem refLen_w {l : Value} {rs : List RunT} (m : Nat) (b : Int) (H : St w0 F0 w E) (i : Nat) (hi : E i = some (ledR l (some rs))) (hg : LW (some rs) m b) (hm : m ≤ 1000000000000) (hb : b ≤ 4611686018427387904) :
    Calls Try.prog 27 #[l] w fun e w' => e = .returned (.int .i64 (total rs)) ∧ w = w' := by
  obtain ⟨g, A, c, rfl, hlt, c0, hr⟩ := H.ledRRead i hi
  obtain ⟨h1, h2, h3⟩ := hg rs rfl
  have h0 : ∀ r ∈ rs, 0 ≤ r.2.2 := fun r hr => by have := h1 r hr; omega
  have HT := Lib.hid (total_take_le h0)
  have HB := Lib.hid h3
  have HE : Hid (total (rs.take rs.length) = total rs) := by unfold Hid; rw [List.take_length]
  clear h0 h1 h3 H hg
  unfold lptr
  generalize hN : rs.length = N at c0 hr h2 HE
  have HN := Lib.hid hN
  clear hN
  go_enter Try.func27, Try.ntmps27
  go_wp2
  go_loop [3, 4] (fun t i => ∃ k : Nat, k ≤ N ∧ i = .int .i64 k ∧ t = .int .i64 (total (rs.take k))) (fun _ i => N - (intOf i).toNat)
  case atStart => exact ⟨0, Nat.zero_le _, rfl, rfl⟩
  case round =>
    obtain ⟨k, hk, rfl, rfl⟩ := hrel
    by_cases hlt2 : k < N
    · obtain ⟨x, hx⟩ : ∃ r, rs[k]? = some r := ⟨_, List.getElem?_eq_getElem (by rw [HN.out]; exact hlt2)⟩
      obtain ⟨p, o, rfl, -, hcx⟩ := hr.flat (by omega) (by omega)
      have a0 := hcx (k * 3 + 2) _ (by rw [runsV_get rs k 2 x hx (by omega)]; rfl)
      rw [← Nat.add_assoc] at a0
      have HS := Lib.hid (total_take_succ hx)
      have b1 := HT.out k
      have b2 := HT.out (k + 1)
      have b3 := HB.out
      rw [HS.out] at b2
      have hk1 : (k : Int) < N := by omega
      generalize x.2.2 = xc at a0 HS b2
      generalize total (rs.take k) = T at HS b1 b2 ⊢
      clear hx hcx
      go_wp2
      go_round
      case rel => exact ⟨k + 1, by omega, by go_num, congrArg (Value.int IntKind.i64) HS.out.symm⟩
      case measure => simp [intOf]; omega
    · obtain rfl : N = k := by omega
      rw [HE.out]
      go_wp2
      go_ret
      exact ⟨rfl, rfl⟩

set_option maxHeartbeats 1000000 in
theorem refRuns_w {l : Value} {rs : List RunT} (m : Nat) (b : Int) (H : St w0 F0 w E) (i : Nat) (hi : E i = some (ledR l (some rs))) (hg : LW (some rs) m b) (hm : m ≤ 1000000000) (q : Nat) (hq : E q = Option.none) :
    Calls Try.prog 28 #[l] w fun e w' => ∃ v, e = .returned v ∧ St w0 F0 w' (upd E q (runsO v rs)) := by
  obtain ⟨i0, hi0, hz0, hz1, hz2⟩ := info_parts run_info
  obtain ⟨g, A, c, hlp, hlt, c0, hr⟩ := H.ledRRead i hi
  obtain ⟨h1, h2, h3⟩ := hg rs rfl
  have HE : Hid (rs.take rs.length = rs) := by unfold Hid; rw [List.take_length]
  clear h1 h3 hg
  generalize hN : rs.length = N at c0 hr h2 HE
  have HN := Lib.hid hN
  clear hN
  have HH := Lib.hid H
  have G := St.start_lay w []
  replace G := (G.nilRow 0 rfl 43 3).push_mk rfl
  have HRR : Hid (Rd w 3 A N (runsV rs)) := hr
  have HLP := Lib.hid hlp
  obtain rfl := hlp
  unfold lptr
  go_enter Try.func28, Try.ntmps28
  clear H c0 hr
  go_wp2
  go_loopw [3, 4] (fun t i wr => ∃ k : Nat, k ≤ N ∧ i = .int .i64 k ∧ St w [] wr (lay [.row 43 3 t k (runsV (rs.take k))])) (fun _ i _ => N - (intOf i).toNat)
  case atStart => exact ⟨0, Nat.zero_le _, rfl, G⟩
  case round =>
    clear G
    obtain ⟨k, hk, rfl, G⟩ := hrel
    obtain ⟨g', A', c', e, hlt, c0, hr⟩ := (HH.out.call G.below).ledRRead i hi
    unfold lptr at e
    injection e with e
    injection e with e
    injection e with e
    subst e
    rw [HN.out] at c0 hr
    by_cases hlt2 : k < N
    · obtain ⟨x, hx⟩ : ∃ r, rs[k]? = some r := ⟨_, List.getElem?_eq_getElem (by rw [HN.out]; exact hlt2)⟩
      obtain ⟨p, o, rfl, -, hcx⟩ := hr.flat (by omega) (by omega)
      have a0 := hcx (k * 3 + 0) _ (by rw [runsV_get rs k 0 x hx (by omega)]; rfl)
      have a1 := hcx (k * 3 + 1) _ (by rw [runsV_get rs k 1 x hx (by omega)]; rfl)
      have a2 := hcx (k * 3 + 2) _ (by rw [runsV_get rs k 2 x hx (by omega)]; rfl)
      simp only [← Nat.add_assoc, Nat.add_zero] at a0 a1 a2
      have HS := Lib.hid (runsV_snoc hx)
      have hk1 : (k : Int) < N := by omega
      obtain ⟨x0, x1, x2⟩ := x
      simp only at a0 a1 a2
      clear hx hcx hr
      obtain ⟨A3, c3, rfl, -⟩ := row_form (G.row 0 rfl)
      go_wp2_with (at_builtin; refine hold_here' ?_)
      refine Lib.hid ?_
      refine absorb_list (G.allocAt 1 rfl wr.heap.size rfl #[.int .u8 x0, .int .i64 x1, .int .i64 x2] 43 |>.push_mk rfl) ?_
      clear G
      intro w5 G
      generalize wr.heap.size = gN at G ⊢
      refine wpList_append_any _ rfl (.tmp 18) (.tmp 26) _ rfl 0 43 i0 _ 3 24 Try.underlying37 hi0 hz0 hz1 hz2 rfl (by omega) (.slice A3 k c3) k (runsV (rs.take k)) rfl (G.row 0 rfl) (some ⟨gN, 0, none⟩) 1 1 [.int .u8 x0, .int .i64 x1, .int .i64 x2] rfl (G.rdBlk 1 rfl 3 1 rfl) (by intro u hu; simp at hu; rcases hu with rfl | rfl | rfl <;> rfl) (by simp only [maxLen]; omega) (by omega) (by omega) ?_
      intro v6 w6 hown6 hg6 hat6
      replace G := ((G.grow 0 rfl hown6 hg6 hat6).upd_mk (by simp)).front 1
      clear hown6 hg6 hat6
      have G2 : St w [] w6 (lay [.row 43 3 v6 (k + 1) (runsV (rs.take (k + 1)))]) := by rw [HS.out]; exact G
      clear G
      go_wp2
      go_roundw
      case rel => exact ⟨k + 1, by omega, by go_num, G2⟩
      case measure => simp [intOf]; omega
    · obtain rfl : N = k := by omega
      go_wp2
      go_ret
      refine ⟨_, rfl, ?_⟩
      rw [HE.out] at G
      have H2 := HH.out.pushRow q hq G.below (G.ownRow 0 rfl)
      rw [← HN.out] at H2
      exact H2

end

end Go.Proofs.Ytgjlclihgpahbaa

namespace Go.Proofs.Ytgjlclihgpahbaa
open Go.RowKit
set_option linter.unusedVariables false
set_option maxRecDepth 100000

theorem lives_val : (Sp.new 168 31).shut.read 8 = [0x7f, 0x9c, 0x2b, 0xa4, 0xe8, 0x8f, 0x82, 0x7d] := by decide +kernel

theorem total_nil : total [] = 0 := rfl

attribute [local irreducible] permB kBytes kPerm kFrom

theorem spBelow {w w' : World} {a : Addr} {v : Value} (hb : Below w.heap.size w w') (h : w.cell? a = some v) : w'.cell? a = some v := by
  rw [hb.cell (World.block_lt_of_cell? w _ h)]; exact h

theorem SpNo.below {w w' : World} {s : Value} (h : SpNo w s) (hb : Below w.heap.size w w') : SpNo w' s := by
  rcases h with rfl | ⟨g, rfl, c0, c3⟩
  · exact .inl rfl
  · exact .inr ⟨g, rfl, spBelow hb c0, spBelow hb c3⟩

/-- a sponge that Wipe left, or that nobody made -/
theorem St.spNo {w0 w : World} {F0 : List Nat} {E : Env} {g : Nat} (H : St w0 F0 w E) (k : Nat) (hk : E k = some (.blk g 71 spZero)) : SpNo w (lptr g) :=
  .inr ⟨g, rfl, H.cell k hk (by unfold spZero; rw [sp_get _ _ 0 zb200 rfl]; rfl), H.cell k hk (by unfold spZero; rw [sp_get _ _ 3 zb200 rfl]; rfl)⟩

section
variable {w : World}

set_option maxHeartbeats 1000000 in
theorem lives_s : Calls Try.prog 18 #[] w fun e w' => e = .returned (.bool true) ∧ Below w.heap.size w w' := by
  have H := (St.start_lay w []).ledNil 0 rfl |>.push_mk rfl
  go_enter Try.func18, Try.ntmps18
  go_wp2_with fail
  refine (spNew_s 168 31 H 1 rfl (by omega) (by omega) (by omega)).mono ?_
  rintro e w1 ⟨g, rfl, H1⟩
  replace H1 := H1.push_mk rfl
  clear H
  unfold lptr
  go_wp2_with fail
  refine (spRead_s (.pointer none) none 0 0 g (Sp.new 168 31) 8 8 rfl H1 0 1 2 (by omega) rfl rfl rfl (LW.none _ _) (by omega) (by omega) (Sp.new_ok _ _ (by omega) (by omega)) (by omega)).mono ?_
  rintro e w2 ⟨v, rfl, H2⟩
  rw [lives_val, upd_laid (by simp), upd_laid (by simp)] at H2
  replace H2 := H2.push_mk rfl
  obtain ⟨A, c, rfl, -⟩ := row_form (H2.row 2 rfl)
  clear H1
  go_wp2_with fail
  refine absorb_calls (H2.allocAt 3 rfl w2.heap.size rfl _ _ |>.push_mk rfl) ?_
  intro w3 H3
  clear H2
  generalize w2.heap.size = g3 at H3 ⊢
  refine (sameBytes_yes A _ 8 8 c 8 [0x7f, 0x9c, 0x2b, 0xa4, 0xe8, 0x8f, 0x82, 0x7d] [0x7f, 0x9c, 0x2b, 0xa4, 0xe8, 0x8f, 0x82, 0x7d] w3 (H3.rd 2 rfl) (H3.rdBlk 3 rfl 1 8 rfl) (by omega) (by omega) rfl).mono ?_
  rintro e w4 ⟨rfl, hb⟩
  go_wp2
  go_ret
  exact ⟨rfl, (H3.call hb).below⟩

theorem rateOf_s (n : Int) (h1 : -9223372036854775808 ≤ n) (h2 : n ≤ 9223372036854775807) : Calls Try.prog 19 #[.int .i64 n] w fun e w' => (∃ r : Int, e = .returned (.int .i64 r) ∧ 8 ≤ r ∧ r ≤ 192 ∧ r % 8 = 0 ∧ r = 8 + 8 * (n % 24)) ∧ w = w' := by
  go_enter Try.func19, Try.ntmps19
  go_wp2_with fail
  refine (pick_any n 24 w h1 h2 (by omega) (by omega) rfl).mono ?_
  rintro e w1 ⟨⟨m, hm, he, rfl⟩, rfl⟩
  have hm1 : (m : Int) ≤ 23 := by omega
  have HE := Lib.hid he
  clear he
  go_wp2
  go_ret
  exact ⟨⟨8 + 8 * (m : Int), rfl, by omega, by omega, by omega, by have := HE.out; omega⟩, rfl⟩

set_option maxHeartbeats 1000000 in
theorem empty_s (s v : Value) (n : Int) (h : SpNo w s) : Calls Try.prog 31 #[s, v, .int .i64 n] w fun e w' => e = .returned (.bool true) ∧ Below w.heap.size w w' := by
  have H := St.start_lay w []
  go_enter Try.func31, Try.ntmps31
  go_wp2_with fail
  refine (ledger_new H 0 rfl).mono ?_
  rintro e w1 ⟨l, rfl, H1⟩
  replace H1 := H1.push_mk rfl
  have hs := h.below H1.below
  clear H h
  go_wp2_with fail
  refine (spRead_none l n s hs).mono ?_
  rintro e w2 ⟨rfl, rfl⟩
  go_wp2_with fail
  refine (spClone_none s hs).mono ?_
  rintro e w2 ⟨rfl, rfl⟩
  go_wp2_with fail
  refine (spWrite_none l v s hs).mono ?_
  rintro e w2 ⟨rfl, rfl⟩
  go_wp2_with fail
  refine (spClose_none l s hs).mono ?_
  rintro e w2 ⟨rfl, rfl⟩
  go_wp2_with fail
  refine (spWipe_none l s hs).mono ?_
  rintro e w2 ⟨rfl, rfl⟩
  go_wp2_with fail
  refine (spForm_none s hs).mono ?_
  rintro e w2 ⟨rfl, rfl⟩
  go_wp2_with fail
  refine (spRate_none s hs).mono ?_
  rintro e w2 ⟨rfl, rfl⟩
  go_wp2_with fail
  refine (spShut_none s hs).mono ?_
  rintro e w2 ⟨rfl, rfl⟩
  go_wp2_with fail
  refine (ledger_len_w H1 0 rfl).mono ?_
  rintro e w2 ⟨rfl, rfl⟩
  rw [total_nil]
  go_wp2
  go_ret
  exact ⟨rfl, H1.below⟩

end

end Go.Proofs.Ytgjlclihgpahbaa

namespace Go.Proofs.Ytgjlclihgpahbaa
open Go.RowKit
set_option linter.unusedVariables false
set_option maxRecDepth 100000

attribute [local irreducible] permB kBytes kPerm kFrom

section
variable {w0 w : World} {F0 : List Nat} {E : Env}

theorem St.drop {A : Own} {k : Nat} (hk : E k = none) (H : St w0 F0 w (upd E k A)) : St w0 F0 w E := H.sub fun n C hC => by
  have : n ≠ k := fun e => by rw [e, hk] at hC; cases hC
  rw [show upd E k A n = E n from if_neg this]; exact hC

set_option maxHeartbeats 2000000 in
theorem spForm_s (g : Nat) (x : Sp) (H : St w0 F0 w E) (j k : Nat) (hj : E j = some (.blk g 71 x.vs)) (hk : E k = none) (hx : x.Ok) :
    Calls Try.prog 22 #[lptr g] w fun e w' => ∃ v, e = .returned v ∧ St w0 F0 w' (upd E k (.row 5 1 v 203 (x.form.map vb))) := by
  obtain ⟨i0, hi0, hz0, hz1, hz2⟩ := info_parts u8_info
  obtain ⟨k1, k2, k3, k4⟩ := Sp.cells hx.hb
  have h8 := hx.r8
  have hp : x.p ≤ 192 := Nat.le_trans hx.pr hx.r192
  have c0 := H.cell j hj k1
  have HX := Lib.hid hx.hb
  have HJ := Lib.hid hj
  have HK := Lib.hid hk
  clear hj hk hx
  go_enter Try.func22, Try.ntmps22
  go_wp2_with fail
  refine (spNone_no g x.r w c0 (by omega)).mono ?_
  rintro e w1 ⟨rfl, rfl⟩
  unfold lptr
  have hp1 : (x.p : Int) ≤ 192 := by omega
  have hq1 : Hid (IntKind.u8.wrap ((x.p : Int) / 256) = 0) := by unfold Hid; rw [show (x.p : Int) / 256 = 0 by omega]; rfl
  have hq2 : Hid (IntKind.u8.wrap (x.p : Int) = ((UInt8.ofNat x.p).toNat : Int)) := by unfold Hid; rw [IntKind.wrap_u8, UInt8.toNat_ofNat']; omega
  have HF : Hid (x.form = x.b ++ [0, UInt8.ofNat x.p, if x.s = true then 1 else 0]) := by unfold Hid; rfl
  have c3 := H.cell j HJ.out k4
  go_wp2
  replace H := H.drew
  refine wp_region_held_drew (S := fun w' : World => St w0 F0 w' E) (by kernel_rfl) ?_ (fun hHeld => ?_)
  · exact H
  refine takeV 0 rfl (by intro w h; clear h; go_simp; try with_reducible rfl) (by kernel_rfl) (by kernel_rfl) (by kernel_rfl) (by exact fun _ _ _ h => h) (by rfl) (by assumption) ?_
  try simp only [Act.put, List.setIfInBounds_toArray, List.set_cons_zero, List.set_cons_succ]
  refine takeV 1 rfl (by intro w h; clear h; go_simp; try with_reducible rfl) (by kernel_rfl) (by kernel_rfl) (by kernel_rfl) (by exact fun _ _ _ h => h) (by rfl) (by assumption) ?_
  try simp only [Act.put, List.setIfInBounds_toArray, List.set_cons_zero, List.set_cons_succ]
  refine takeV 2 rfl (by intro w h; clear h; go_simp; try with_reducible rfl) (by kernel_rfl) (by kernel_rfl) (by kernel_rfl) (by exact fun _ _ _ h => h) (by rfl) (by assumption) ?_
  try simp only [Act.put, List.setIfInBounds_toArray, List.set_cons_zero, List.set_cons_succ]
  refine takeV 3 rfl (by intro w h; clear h; go_simp; try with_reducible rfl) (by kernel_rfl) (by kernel_rfl) (by kernel_rfl) (by exact fun _ _ _ h => h) (by rfl) (by assumption) ?_
  try simp only [Act.put, List.setIfInBounds_toArray, List.set_cons_zero, List.set_cons_succ]
  refine takeV 4 rfl (by intro w h; clear h; go_simp; try with_reducible rfl) (by kernel_rfl) (by kernel_rfl) (by kernel_rfl) (by exact fun _ _ _ h => h) (by rfl) (by assumption) ?_
  try simp only [Act.put, List.setIfInBounds_toArray, List.set_cons_zero, List.set_cons_succ]
  refine takeV 5 rfl (by intro w h; clear h; go_simp; try with_reducible rfl) (by kernel_rfl) (by kernel_rfl) (by kernel_rfl) (by exact fun _ _ _ h => h) (by rfl) (by assumption) ?_
  try simp only [Act.put, List.setIfInBounds_toArray, List.set_cons_zero, List.set_cons_succ]
  refine takeV 6 rfl (by intro w h; clear h; go_simp; try with_reducible rfl) (by kernel_rfl) (by kernel_rfl) (by kernel_rfl) (by exact fun _ _ _ h => h) (by rfl) (by assumption) ?_
  try simp only [Act.put, List.setIfInBounds_toArray, List.set_cons_zero, List.set_cons_succ]
  refine takeV 7 rfl (by intro w h; have hc := h.cell j HJ.out k3; clear h; go_simp; try with_reducible rfl) (by kernel_rfl) (by kernel_rfl) (by kernel_rfl) (by exact fun _ _ _ h => h) (by rfl) (by assumption) ?_
  try simp only [Act.put, List.setIfInBounds_toArray, List.set_cons_zero, List.set_cons_succ]
  refine takeV 8 rfl (by intro w h; clear h; go_simp; try with_reducible rfl) (by kernel_rfl) (by kernel_rfl) (by kernel_rfl) (by exact fun _ _ _ h => h) (by rfl) (by assumption) ?_
  try simp only [Act.put, List.setIfInBounds_toArray, List.set_cons_zero, List.set_cons_succ]
  refine takeV 9 rfl (by intro w h; clear h; go_simp; try with_reducible rfl) (by kernel_rfl) (by kernel_rfl) (by kernel_rfl) (by exact fun _ _ _ h => h) (by rfl) (by assumption) ?_
  try simp only [Act.put, List.setIfInBounds_toArray, List.set_cons_zero, List.set_cons_succ]
  refine takeV 10 rfl (by intro w h; clear h; go_simp; try with_reducible rfl) (by kernel_rfl) (by kernel_rfl) (by kernel_rfl) (by exact fun _ _ _ h => h) (by rfl) (by assumption) ?_
  try simp only [Act.put, List.setIfInBounds_toArray, List.set_cons_zero, List.set_cons_succ]
  refine takeV 11 rfl (by intro w h; clear h; go_simp; try with_reducible rfl) (by kernel_rfl) (by kernel_rfl) (by kernel_rfl) (by exact fun _ _ _ h => h) (by rfl) (by assumption) ?_
  try simp only [Act.put, List.setIfInBounds_toArray, List.set_cons_zero, List.set_cons_succ]
  refine takeV 12 rfl (by intro w h; clear h; go_simp; try with_reducible rfl) (by kernel_rfl) (by kernel_rfl) (by kernel_rfl) (by exact fun _ _ _ h => h) (by rfl) (by assumption) ?_
  try simp only [Act.put, List.setIfInBounds_toArray, List.set_cons_zero, List.set_cons_succ]
  refine takeV 13 rfl (by intro w h; have hc := h.cell j HJ.out k3; clear h; go_simp; try with_reducible rfl) (by kernel_rfl) (by kernel_rfl) (by kernel_rfl) (by exact fun _ _ _ h => h) (by rfl) (by assumption) ?_
  try simp only [Act.put, List.setIfInBounds_toArray, List.set_cons_zero, List.set_cons_succ]
  refine takeV 14 rfl (by intro w h; clear h; go_simp; try with_reducible rfl) (by kernel_rfl) (by kernel_rfl) (by kernel_rfl) (by exact fun _ _ _ h => h) (by rfl) (by assumption) ?_
  try simp only [Act.put, List.setIfInBounds_toArray, List.set_cons_zero, List.set_cons_succ]
  rw [hq1.out, hq2.out]
  generalize UInt8.ofNat x.p = P8 at HF
  refine take_call 15 rfl (by kernel_rfl) (fun K hK => ?_)
  go_simp
  have H4 := H.alloc k HK.out #[.int .u8 0, .int .u8 (P8.toNat : Int), .int .u8 0] 5
  refine hK.out _ _ (St.drop HK.out H4) (fun hHeld => ?_)
  clear hK K
  try simp only [Act.put, List.setIfInBounds_toArray, List.set_cons_zero, List.set_cons_succ]
  have hjk : upd E k (.blk w.drew.heap.size 5 [.int .u8 0, .int .u8 (P8.toNat : Int), .int .u8 0]) j = some (.blk g 71 x.vs) := by rw [show upd E k _ j = E j from if_neg fun e => by have := HJ.out; rw [e, HK.out] at this; cases this]; exact HJ.out
  refine take_call 16 rfl (by kernel_rfl) (fun K hK => ?_)
  refine step_append_grows _ (by rfl) (.tmp 9) (.tmp 21) _ (by rfl) 5 i0 (.int .u8 0) 1 1 Try.underlying27 hi0 hz0 hz1 hz2 rfl (by omega) ⟨g, 0, none⟩ 200 200 (x.b.map vb) (by rfl) (by rw [List.length_map, HX.out]) (fun i u hu => by rw [Addr.add_mid, Nat.zero_add]; exact H4.cell j hjk (by unfold Sp.vs; rw [List.getElem?_append_left (List.getElem?_eq_some_iff.1 hu).1]; exact hu)) ⟨_, 0, none⟩ 3 3 [.int .u8 0, .int .u8 (P8.toNat : Int), .int .u8 0] (by rfl) rfl (fun i u hu => by rw [Addr.add_mid, Nat.zero_add]; exact H4.cell k upd_same hu) (by omega) (by simp only [maxLen]; omega) (by omega) ?_
  intro v1 w5 hown hg2
  have H5 := (St.drop HK.out H4).pushRow k HK.out ((Below.refl _ _).grown hg2 (Nat.le_refl _) (fun _ h => by cases h)) hown
  refine hK.out _ _ (St.drop HK.out H5) (fun hHeld => ?_)
  clear hK K H4 hown hg2 hjk H
  try simp only [Act.put, List.setIfInBounds_toArray, List.set_cons_zero, List.set_cons_succ]
  refine takeV 17 rfl (by intro w h; clear h; go_simp; try with_reducible rfl) (by kernel_rfl) (by kernel_rfl) (by kernel_rfl) (by exact fun _ _ _ h => h) (by rfl) (by assumption) ?_
  try simp only [Act.put, List.setIfInBounds_toArray, List.set_cons_zero, List.set_cons_succ]
  refine wpAnyH_done (by kernel_rfl) ?_ _
  clear hHeld
  obtain ⟨A1, d1, rfl, hd1, ha1⟩ := row_form (H5.row k upd_same)
  obtain ⟨g1, rfl, -⟩ := ha1 (by omega)
  replace H5 : St w0 F0 w5 (upd E k (.row 5 1 (.slice (some ⟨g1, 0, none⟩) 203 d1) 203 (x.b.map vb ++ [.int .u8 0, .int .u8 (P8.toNat : Int), .int .u8 0]))) := H5
  rw [show (200 + 3 : Nat) = 203 from rfl]
  have c6 := (St.drop HK.out H5).cell j HJ.out k4
  have f1 := World.ownsRow.frozenAt (H5.row k upd_same) 202
  have f2 := World.ownsRow.cellAt (H5.row k upd_same) 202 (by omega)
  rw [sp_get x.b _ 2 HX.out rfl] at f2
  simp only [List.getElem?_cons_succ, List.getElem?_cons_zero] at f2
  clear ha1 k1 k2 k3 k4 c0 c3
  rcases hs : x.s with _ | _
  all_goals rw [hs] at c6
  · have HF2 : Hid (x.form.map vb = x.b.map vb ++ [.int .u8 0, .int .u8 (P8.toNat : Int), .int .u8 0]) := by unfold Hid; rw [HF.out, hs, List.map_append]; rfl
    clear hs HF
    go_wp2
    go_ret
    exact ⟨_, rfl, by rw [HF2.out]; exact H5⟩
  · have HF2 : Hid (x.form.map vb = x.b.map vb ++ [.int .u8 0, .int .u8 (P8.toNat : Int), .int .u8 1]) := by unfold Hid; rw [HF.out, hs, List.map_append]; rfl
    clear hs HF
    go_wp2
    go_ret
    have H6 := H5.rowStore k upd_same (o := 202) (u := .int .u8 1)
    rw [upd_upd, sp_put x.b _ 2 _ HX.out rfl] at H6
    exact ⟨_, rfl, by rw [HF2.out]; exact H6⟩

end

end Go.Proofs.Ytgjlclihgpahbaa

namespace Go.Proofs.Ytgjlclihgpahbaa
open Go.RowKit
set_option linter.unusedVariables false
set_option maxRecDepth 100000

attribute [local irreducible] permB kBytes kPerm kFrom

theorem count_add (a n r : Nat) (hr : 0 < r) : a / r + (a % r + n) / r = (a + n) / r := by
  have h := Nat.div_add_mod a r
  have e : a + n = (a % r + n) + r * (a / r) := by omega
  rw [e, Nat.add_mul_div_left _ _ hr, Nat.add_comm]

theorem Sp.after_add (x : Sp) (m n : Nat) : x.after (m + n) = (x.after m).after n := by
  induction n with
  | zero => rfl
  | succ n ih => rw [← Nat.add_assoc, Sp.after_succ, ih]; rfl

theorem Sp.read_add (x : Sp) (m n : Nat) : x.read (m + n) = x.read m ++ (x.after m).read n := by
  unfold Sp.read
  rw [List.range_add, List.map_append, List.map_map]
  congr 1
  apply List.map_congr_left
  intro i _
  show (x.after (m + i)).get = _
  rw [Sp.after_add]

/-- where a sponge that is shut stands behind some bytes, and how often it was permuted -/
theorem Sp.after_count {x : Sp} (h : x.Ok) (hs : x.s = true) : ∀ m, ((x.p + m - 1) / x.r) * x.r + (x.after m).p = x.p + m ∧ (0 < m → 1 ≤ (x.after m).p) := by
  have h8 := h.r8
  have hpr := h.pr
  have key : ∀ m, ∃ c, c * x.r + (x.after m).p = x.p + m ∧ (m = 0 → c = 0) ∧ (0 < m → 1 ≤ (x.after m).p) := by
    intro m
    induction m with
    | zero => exact ⟨0, by rw [Sp.after_zero]; omega, fun _ => rfl, fun h => absurd h (by omega)⟩
    | succ m ih =>
      obtain ⟨c, h1, h2, h3⟩ := ih
      obtain ⟨ok, hr, hs', hf⟩ := Sp.after_ok h hs m
      by_cases he : (x.after m).p = (x.after m).r
      · refine ⟨c + 1, ?_, fun e => absurd e (by omega), fun _ => ?_⟩
        · rw [Sp.after_succ, Sp.turn_yes he]
          show (c + 1) * x.r + (0 + 1) = x.p + (m + 1)
          rw [Nat.add_mul, Nat.one_mul]
          rw [he, hr] at h1
          omega
        · rw [Sp.after_succ, Sp.turn_yes he]
          show 1 ≤ 0 + 1
          omega
      · refine ⟨c, ?_, fun e => absurd e (by omega), fun _ => ?_⟩
        · rw [Sp.after_succ, Sp.turn_no he]
          show c * x.r + ((x.after m).p + 1) = x.p + (m + 1)
          omega
        · rw [Sp.after_succ, Sp.turn_no he]
          show 1 ≤ (x.after m).p + 1
          omega
  intro m
  obtain ⟨c, h1, h2, h3⟩ := key m
  obtain ⟨ok, hr, -, -⟩ := Sp.after_ok h hs m
  have hc : c = (x.p + m - 1) / x.r := count_end h1 (by rw [← hr]; exact ok.pr) h2 h3 (by omega) hpr
  rw [← hc]
  exact ⟨h1, h3⟩

/-- counted piece by piece -/
theorem Sp.count_more {x : Sp} (h : x.Ok) (hs : x.s = true) (m n : Nat) : (x.p + m - 1) / x.r + ((x.after m).p + n - 1) / x.r = (x.p + (m + n) - 1) / x.r := by
  obtain ⟨h1, h2⟩ := Sp.after_count h hs m
  have h8 := h.r8
  have hpr := h.pr
  obtain ⟨ok, hr, -, -⟩ := Sp.after_ok h hs m
  have hp := ok.pr
  rw [hr] at hp
  generalize (x.p + m - 1) / x.r = c at h1
  rcases Nat.eq_zero_or_pos n with rfl | hn
  · have e1 : ((x.after m).p + 0 - 1) / x.r = 0 := Nat.div_eq_of_lt (by omega)
    rw [e1, Nat.add_zero, Nat.add_zero]
    rcases Nat.eq_zero_or_pos m with rfl | hm
    · rw [Sp.after_zero] at h1
      have hc0 : c = 0 := by
        rcases Nat.eq_zero_or_pos c with h | h
        · exact h
        · have : 1 * x.r ≤ c * x.r := Nat.mul_le_mul_right _ h
          omega
      rw [hc0, Nat.div_eq_of_lt (by omega)]
    · have := h2 hm
      have e : x.p + m - 1 = ((x.after m).p - 1) + x.r * c := by rw [Nat.mul_comm]; omega
      rw [e, Nat.add_mul_div_left _ _ (by omega), Nat.div_eq_of_lt (by omega), Nat.zero_add]
  · have e : x.p + (m + n) - 1 = ((x.after m).p + n - 1) + x.r * c := by rw [Nat.mul_comm]; omega
    rw [e, Nat.add_mul_div_left _ _ (by omega), Nat.add_comm]

end Go.Proofs.Ytgjlclihgpahbaa

namespace Go.Proofs.Ytgjlclihgpahbaa
open Go.RowKit
set_option linter.unusedVariables false

def bigO {α : Type} (f : α → Own) : List α → Own
  | [] => .emp
  | x :: t => .sep (f x) (bigO f t)

theorem bigO_snoc {α : Type} (f : α → Own) (x : α) : ∀ (L : List α) (w : World) (F : List Nat), (Own.sep (bigO f L) (f x)).holds w F → (bigO f (L ++ [x])).holds w F := by
  intro L
  induction L with
  | nil =>
    rintro w F ⟨G, H, rfl, hG, hH, d⟩
    have e : G = [] := hG
    subst e
    exact ⟨H, [], by simp, hH, rfl, by simp⟩
  | cons y L ih =>
    rintro w F ⟨G, H, rfl, ⟨G1, G2, rfl, h1, h2, d1⟩, hH, d⟩
    refine ⟨G1, G2 ++ H, by simp, h1, ih w (G2 ++ H) ⟨G2, H, rfl, h2, hH, fun g hg => d g (by simp [hg])⟩, fun g hg => ?_⟩
    rw [List.mem_append]
    rintro (h | h)
    · exact d1 g hg h
    · exact d g (by simp [hg]) h

section
variable {w0 w : World} {F0 : List Nat} {E : Env}

theorem St.recast {A A' : Own} (H : St w0 F0 w E) (k : Nat) (hk : E k = some A) (h : ∀ w F, A.holds w F → A'.holds w F) : St w0 F0 w (upd E k A') := by
  obtain ⟨F, hA, -, -, hc⟩ := H.change k hk
  exact hc w A' F (h w F hA) (Low.refl _ _) fun g hg => .inl hg

theorem St.part_mk {L : List Own} {A B : Own} (H : St w0 F0 w (lay L)) (i : Nat) (hi : L[i]? = some (.sep A B)) : St w0 F0 w (lay (L.set i A ++ [B])) := by
  have hl : i < L.length := (List.getElem?_eq_some_iff.1 hi).1
  refine (H.part i L.length (by omega) hi (by simp [lay])).env fun k => ?_
  simp only [lay, upd]
  by_cases hk : k = L.length
  · subst hk; simp
  · rw [if_neg hk]
    by_cases hki : k = i
    · subst hki; rw [if_pos rfl, List.getElem?_append_left (by simpa using hl), List.getElem?_set_self hl]
    · rw [if_neg hki]
      rcases Nat.lt_or_ge k L.length with h | h
      · rw [List.getElem?_append_left (by simpa using h), List.getElem?_set_ne (fun e => hki e.symm)]
      · rw [List.getElem?_eq_none (by simp; omega), List.getElem?_eq_none h]

/-- one more element -/
theorem St.fam_push {α : Type} {f : α → Own} {L : List α} {x : α} {A B X Y : Own} {rest : List Own} (H : St w0 F0 w (lay (A :: B :: bigO f L :: X :: Y :: rest))) (hf : f x = .sep X Y) : St w0 F0 w (lay [A, B, bigO f (L ++ [x])]) := by
  have H1 := (H.join 3 4 (by omega) (A := X) (B := Y) rfl rfl)
  have H2 := H1.join 2 3 (by omega) (A := bigO f L) (B := .sep X Y) (by simp [upd, del, lay]) (by simp [upd])
  have H3 := H2.recast (A := .sep (bigO f L) (.sep X Y)) (A' := bigO f (L ++ [x])) 2 (by simp [upd]) (fun w F h => bigO_snoc f x L w F (by rw [hf]; exact h))
  refine H3.sub fun k C hC => ?_
  match k, hC with
  | 0, hC => simpa [upd, del, lay] using hC
  | 1, hC => simpa [upd, del, lay] using hC
  | 2, hC => simpa [upd, del, lay] using hC
  | k + 3, hC => simp [lay] at hC

end

/-- a piece of the family, to be read -/
theorem bigO_row {α : Type} {f : α → Own} {w : World} : ∀ {L : List α} {F : List Nat} {i : Nat} {x : α}, (bigO f L).holds w F → L[i]? = some x → ∃ G, (f x).holds w G := by
  intro L
  induction L with
  | nil => intro F i x h hx; simp at hx
  | cons y L ih =>
    rintro F i x ⟨G, H, rfl, hG, hH, d⟩ hx
    cases i with
    | zero => simp at hx; subst hx; exact ⟨G, hG⟩
    | succ i => exact ih hH (by simpa using hx)

theorem St.bigRow {α : Type} {f : α → Own} {L : List α} {w0 w : World} {F0 : List Nat} {E : Env} (H : St w0 F0 w E) (k : Nat) (hk : E k = some (bigO f L)) {i : Nat} {x : α} (hx : L[i]? = some x) : ∃ G, (f x).holds w G := by
  obtain ⟨F, hA, -, -, -⟩ := H.change k hk
  exact bigO_row hA hx

/-- one more element, a piece of its own -/
theorem St.bigPush {α : Type} {f : α → Own} {L : List α} {x : α} {w0 w : World} {F0 : List Nat} {A : Own} (H : St w0 F0 w (lay [A, bigO f L, f x])) : St w0 F0 w (lay [A, bigO f (L ++ [x])]) := by
  have H1 := H.join 1 2 (by omega) (A := bigO f L) (B := f x) rfl rfl
  have H2 := H1.recast (A := .sep (bigO f L) (f x)) (A' := bigO f (L ++ [x])) 1 (by simp [upd]) (fun w F h => bigO_snoc f x L w F h)
  refine H2.sub fun k C hC => ?_
  match k, hC with
  | 0, hC => simpa [upd, del, lay] using hC
  | 1, hC => simpa [upd, del, lay] using hC
  | k + 2, hC => simp [lay] at hC

end Go.Proofs.Ytgjlclihgpahbaa

namespace Go.Proofs.Ytgjlclihgpahbaa
open Go.RowKit
set_option linter.unusedVariables false
set_option maxRecDepth 100000

structure Pc where
  A : Option Addr
  n : Nat
  c : Nat
  l : List UInt8

def Pc.v (p : Pc) : Value := .slice p.A p.n p.c

def Pc.own (p : Pc) : Own := .row 5 1 (.slice p.A p.n p.c) p.n (p.l.map vb)

/-- bytes as pieces, each as long as the next number says -/
def cutB (p : List UInt8) : List UInt8 → List (List UInt8)
  | [] => [p]
  | c :: cs => if p = [] then [p] else p.take (c.toNat % 200) :: cutB (p.drop (c.toNat % 200)) cs

theorem cutB_nil (cs : List UInt8) : cutB [] cs = [[]] := by cases cs <;> rfl

theorem cutB_flat : ∀ (cs p : List UInt8), (cutB p cs).flatten = p := by
  intro cs
  induction cs with
  | nil => intro p; simp [cutB]
  | cons c cs ih =>
    intro p
    unfold cutB
    split
    · rename_i h; subst h; rfl
    · rw [List.flatten_cons, ih, List.take_append_drop]

theorem cutB_len : ∀ (cs p : List UInt8), (cutB p cs).length ≤ cs.length + 1 := by
  intro cs
  induction cs with
  | nil => intro p; simp [cutB]
  | cons c cs ih =>
    intro p
    unfold cutB
    split
    · simp
    · rw [List.length_cons, List.length_cons]
      have := ih (p.drop (c.toNat % 200))
      omega

theorem cutB_step {p cs : List UInt8} {k : Nat} {c : UInt8} (h : cs[k]? = some c) (hp : p ≠ []) : cutB p (cs.drop k) = p.take (c.toNat % 200) :: cutB (p.drop (c.toNat % 200)) (cs.drop (k + 1)) := by
  have hk : k < cs.length := (List.getElem?_eq_some_iff.1 h).1
  have e : cs.drop k = c :: cs.drop (k + 1) := by rw [List.drop_eq_getElem_cons hk, (List.getElem?_eq_some_iff.1 h).2]
  rw [e]
  show (if p = [] then [p] else _) = _
  rw [if_neg hp]

theorem cutB_end {p cs : List UInt8} {k : Nat} (h : k = cs.length ∨ p = []) : cutB p (cs.drop k) = [p] := by
  rcases h with rfl | rfl
  · rw [List.drop_length]; rfl
  · exact cutB_nil _

theorem Rd.drop_if {w : World} {b o n c x : Nat} {l : List UInt8} (h : Rd w 1 (some ⟨b, o, none⟩) n (l.map vb)) (hx : x ≤ n) (hc : n ≤ c) : Rd w 1 (if c = x then some ⟨b, o, none⟩ else some ⟨b, o + x, none⟩) (n - x) ((l.drop x).map vb) := by
  have hl : l.length = n := by have := h.1; simpa using this
  refine ⟨by simp [hl], fun hp => ?_⟩
  obtain ⟨ad, e, h1, h2⟩ := h.2 (by omega)
  injection e with e
  subst e
  refine ⟨⟨b, o + x, none⟩, if_neg (by omega), h1, fun j u hu => ?_⟩
  rw [List.map_drop, List.getElem?_drop] at hu
  have := h2 (x + j) u hu
  rw [Addr.add_mid] at this ⊢
  rw [Nat.add_assoc]
  exact this

set_option maxHeartbeats 4000000 in
theorem cutInto_s (A : Option Addr) (n c : Nat) (p : List UInt8) (B : Option Addr) (m d : Nat) (cs : List UInt8) (w : World) (hA : Rd w 1 A n (p.map vb)) (hB : Rd w 1 B m (cs.map vb)) (hn : n ≤ 100000000000) (hm : m ≤ 1000000000) (hc : n ≤ c) :
    Calls Try.prog 21 #[.slice A n c, .slice B m d] w fun e w' => ∃ V ps, e = .returned V ∧ ps.map Pc.l = cutB p cs ∧ St w [] w' (lay [.row 27 1 V ps.length (ps.map Pc.v), bigO Pc.own ps]) := by
  obtain ⟨i0, hi0, hz0, hz1', hz2'⟩ := info_parts lb_info
  have HM : Hid (cs.length = m) := by unfold Hid; have := hB.1; simpa using this
  have HBB := Lib.hid hB
  have H0 := (St.start_lay w []).nilRow 0 rfl 27 1 |>.push_mk rfl |>.nothing 1 rfl |>.push_mk rfl
  clear hB
  go_enter Try.func21, Try.ntmps21
  go_wp2
  go_loopw [0, 5, 6] (fun s V i wr => ∃ (k : Nat) (A' : Option Addr) (n' c' : Nat) (rest : List UInt8) (ps : List Pc), k ≤ m ∧ i = .int .i64 k ∧ s = .slice A' n' c' ∧ n' ≤ n ∧ n' ≤ c' ∧ Hid (ps.length = k) ∧ Hid (ps.map Pc.l ++ cutB rest (cs.drop k) = cutB p cs) ∧ Hid (Rd w 1 A' n' (rest.map vb)) ∧ St w [] wr (lay [.row 27 1 V k (ps.map Pc.v), bigO Pc.own ps])) (fun _ _ i _ => m - (intOf i).toNat)
  case atStart => exact ⟨0, A, n, c, p, [], Nat.zero_le _, rfl, rfl, Nat.le_refl _, hc, rfl, rfl, hA, H0⟩
  case round =>
    clear H0 hA hc
    obtain ⟨k, A', n', c', rest, ps, hk, rfl, rfl, hn', hc', HK, HP, HR, H⟩ := hrel
    have hl : rest.length = n' := by have := HR.out.1; simpa using this
    have HL := Lib.hid hl
    by_cases hgo : k < m ∧ 0 < n'
    · obtain ⟨hk1, hk2⟩ := hgo
      obtain ⟨b, o, rfl, -, -⟩ := HR.out.flat (by omega) (by omega)
      obtain ⟨cb, hcb⟩ : ∃ v, cs[k]? = some v := ⟨_, List.getElem?_eq_getElem (by rw [HM.out]; exact hk1)⟩
      obtain ⟨pb, ob, rfl, -, hcx⟩ := HBB.out.flat (by omega) (by omega)
      have a0 := (H.below).cell (p := ⟨pb, ob + k, none⟩) (World.block_lt_of_cell? w _ (hcx k (vb cb) (by rw [List.getElem?_map, hcb]; rfl)))
      rw [hcx k (vb cb) (by rw [List.getElem?_map, hcb]; rfl)] at a0
      have hne : rest ≠ [] := fun e => by rw [e] at hl; simp at hl; omega
      have HS := Lib.hid (cutB_step hcb hne)
      clear hcx hcb hne hl
      obtain ⟨q, hq⟩ : ∃ q, cb.toNat % 200 = q := ⟨_, rfl⟩
      rw [hq] at HS
      have HQV : Hid ((cb.toNat : Int) % 200 = (q : Int)) := by unfold Hid; omega
      have hqb : q ≤ 199 := by omega
      have hk3 : (k : Int) < m := by omega
      have hn3 : (0 : Int) < n' := by omega
      have HQ := Lib.hid hq
      clear hq
      have hcb : (cb.toNat : Int) ≤ 255 := by have := cb.toNat_lt; omega
      go_upto_region 6 with (fail)
      rw [HQV.out]
      clear HQV a0
      have HX1 : Hid (rest.take q = rest.take (min q n') ∧ rest.drop q = rest.drop (min q n')) := by
        unfold Hid
        rcases Nat.le_total q n' with h | h
        · rw [Nat.min_eq_left h]; exact ⟨rfl, rfl⟩
        · rw [Nat.min_eq_right h, List.take_of_length_le (by rw [HL.out]; exact h), List.take_of_length_le (by rw [HL.out]; exact Nat.le_refl _), List.drop_eq_nil_of_le (by rw [HL.out]; exact h), List.drop_eq_nil_of_le (by rw [HL.out]; exact Nat.le_refl _)]; exact ⟨rfl, rfl⟩
      have hx : min q n' ≤ n' := Nat.min_le_right _ _
      by_cases hqn : n' < q
      have hq1 : (q : Int) > n' := by omega
      go_upto_region 8 with (fail)
      rw [show ((n' : Nat) : Int) = ((min q n' : Nat) : Int) by rw [Nat.min_eq_right (by omega)]]
      clear hq1 hqn
      rotate_left
      have hq1 : ¬ (q : Int) > n' := by omega
      go_upto_region 8 with (fail)
      rw [show ((q : Nat) : Int) = ((min q n' : Nat) : Int) by rw [Nat.min_eq_left (by omega)]]
      clear hq1 hqn
      rotate_left
      all_goals
        rw [HX1.out.1, HX1.out.2] at HS
        clear HX1 HQ
        generalize min q n' = x at HS hx ⊢
        clear hqb
        have hxi : (x : Int) ≤ c' := by omega
        have hxn : (x : Int) ≤ n' := by omega
        have hrx := HR.out.take hx
        go_wp2_with fail
        refine (copyBytes_any (some ⟨b, o, none⟩) x c' (rest.take x) wr (H.arg0 hrx) (by omega)).mono ?_
        rintro e w2 ⟨v, rfl, ho, hb⟩
        have HLx : Hid ((rest.take x).length = x) := by unfold Hid; rw [List.length_take, HL.out]; omega
        obtain ⟨AV, cV, hV, -⟩ := row_form (H.row 0 rfl)
        subst hV
        replace H := (H.pushRow 2 rfl hb ho).push_mk rfl
        rw [HLx.out] at H
        clear ho hb hrx
        obtain ⟨A9, c9, rfl, -⟩ := row_form (H.row 2 rfl)
        replace H : St w [] w2 (lay [.row 27 1 (.slice AV k cV) k (ps.map Pc.v), bigO Pc.own ps, .row 5 1 (.slice A9 x c9) x ((rest.take x).map vb)]) := H
        go_wp2_with (at_builtin; refine hold_here' ?_)
        refine Lib.hid ?_
        refine absorb_list (H.allocAt 3 rfl w2.heap.size rfl #[.slice A9 x c9] 27 |>.push_mk rfl) ?_
        clear H
        intro w5 H
        generalize w2.heap.size = gN at H ⊢
        refine wpList_append_any _ rfl (.tmp 31) (.tmp 36) _ rfl 0 27 i0 _ 1 24 Try.underlying48 hi0 hz0 hz1' hz2' rfl (by omega) (.slice AV k cV) k (ps.map Pc.v) rfl (H.row 0 rfl) (some ⟨gN, 0, none⟩) 1 1 [.slice A9 x c9] rfl (H.rdBlk 3 rfl 1 1 rfl) (by intro u hu; simp at hu; subst hu; rfl) (by simp only [maxLen]; omega) (by omega) (by omega) ?_
        intro v6 w6 hown6 hg6 hat6
        replace H := ((H.grow 0 rfl hown6 hg6 hat6).upd_mk (by simp)).front 3
        clear hown6 hg6 hat6
        have H7 : St w [] w6 (lay [.row 27 1 v6 (k + 1) (ps.map Pc.v ++ [.slice A9 x c9]), bigO Pc.own ps, Pc.own ⟨A9, x, c9, rest.take x⟩]) := H
        replace H7 := H7.bigPush
        clear H
        have HD := Rd.drop_if HR.out hx hc'
        have HD2 := Lib.hid HD
        clear HD
        go_wp2
        go_roundw
        case rel => exact ⟨k + 1, _, n' - x, c' - x, rest.drop x, ps ++ [⟨A9, x, c9, rest.take x⟩], by omega, by go_num, rfl, by omega, by omega, by unfold Hid; rw [List.length_append, HK.out]; rfl, by unfold Hid; rw [List.map_append, List.append_assoc, ← HP.out, HS.out]; rfl, HD2.out, by rw [List.map_append]; exact H7⟩
        case measure => simp [intOf]; omega
    · have hend : k = m ∨ n' = 0 := by omega
      have HE : Hid (ps.map Pc.l ++ [rest] = cutB p cs) := by
        unfold Hid
        rw [← HP.out, cutB_end]
        rcases hend with h | h
        · exact .inl (by rw [HM.out]; exact h)
        · exact .inr (List.eq_nil_of_length_eq_zero (by rw [HL.out]; exact h))
      have hz : ((k : Int) < m ∧ (n' : Int) = 0) ∨ ¬ (k : Int) < m := by omega
      clear hend hgo
      rcases hz with ⟨hz1, hz2⟩ | hz1
      have hz4 : ¬ (n' : Int) > 0 := by omega
      clear hz2
      rotate_left
      all_goals
        obtain ⟨AV, cV, hV, -⟩ := row_form (H.row 0 rfl)
        subst hV
        go_wp2_with fail
        refine (copyBytes_any A' n' c' rest wr (H.arg0 HR.out) (by omega)).mono ?_
        rintro e w2 ⟨v, rfl, ho, hb⟩
        replace H := (H.pushRow 2 rfl hb ho).push_mk rfl
        rw [HL.out] at H
        clear ho hb
        obtain ⟨A9, c9, rfl, -⟩ := row_form (H.row 2 rfl)
        replace H : St w [] w2 (lay [.row 27 1 (.slice AV k cV) k (ps.map Pc.v), bigO Pc.own ps, .row 5 1 (.slice A9 n' c9) n' (rest.map vb)]) := H
        go_wp2_with (at_builtin; refine hold_here' ?_)
        refine Lib.hid ?_
        refine absorb_list (H.allocAt 3 rfl w2.heap.size rfl #[.slice A9 n' c9] 27 |>.push_mk rfl) ?_
        clear H
        intro w5 H
        generalize w2.heap.size = gN at H ⊢
        refine wpList_append_any _ rfl (.tmp 41) (.tmp 44) _ rfl 0 27 i0 _ 1 24 Try.underlying48 hi0 hz0 hz1' hz2' rfl (by omega) (.slice AV k cV) k (ps.map Pc.v) rfl (H.row 0 rfl) (some ⟨gN, 0, none⟩) 1 1 [.slice A9 n' c9] rfl (H.rdBlk 3 rfl 1 1 rfl) (by intro u hu; simp at hu; subst hu; rfl) (by simp only [maxLen]; omega) (by omega) (by omega) ?_
        intro v6 w6 hown6 hg6 hat6
        replace H := ((H.grow 0 rfl hown6 hg6 hat6).upd_mk (by simp)).front 3
        clear hown6 hg6 hat6
        have H7 : St w [] w6 (lay [.row 27 1 v6 (k + 1) (ps.map Pc.v ++ [.slice A9 n' c9]), bigO Pc.own ps, Pc.own ⟨A9, n', c9, rest⟩]) := H
        replace H7 := H7.bigPush
        clear H
        go_wp2
        go_ret
        refine ⟨_, ps ++ [⟨A9, n', c9, rest⟩], rfl, by rw [List.map_append]; exact HE.out, ?_⟩
        rw [List.length_append, HK.out, List.map_append]
        exact H7

end Go.Proofs.Ytgjlclihgpahbaa

namespace Go.Proofs.Ytgjlclihgpahbaa
open Go.RowKit
set_option linter.unusedVariables false
set_option maxRecDepth 100000

attribute [local irreducible] permB kBytes kPerm kFrom

/-- the first pieces, together -/
def flatTo (L : List (List UInt8)) (i : Nat) : List UInt8 := (L.take i).flatten

theorem flatTo_succ {L : List (List UInt8)} {i : Nat} {x : List UInt8} (h : L[i]? = some x) : flatTo L (i + 1) = flatTo L i ++ x := by
  unfold flatTo; rw [List.take_add_one, h]; simp

theorem flatTo_all (L : List (List UInt8)) : flatTo L L.length = L.flatten := by unfold flatTo; rw [List.take_length]

theorem flatTo_le (L : List (List UInt8)) (i : Nat) : (flatTo L i).length ≤ L.flatten.length := by
  have h : L.flatten = flatTo L i ++ (L.drop i).flatten := by unfold flatTo; rw [← List.flatten_append, List.take_append_drop]
  rw [h, List.length_append]; omega

/-- so many permutations, recorded -/
def runsOf (q : Nat) : List RunT := if q = 0 then [] else [(3, 200, q)]

theorem noteN_runs (q : Nat) : noteN (some []) 3 200 q = some (runsOf q) := by
  unfold noteN runsOf
  split
  · rfl
  · simp [noted]

theorem total_runs (q : Nat) : total (runsOf q) = q := by
  unfold runsOf
  split
  · rename_i h; subst h; rfl
  · simp [total]

theorem w64_in {x : Int} (h : -9223372036854775808 ≤ x ∧ x ≤ 9223372036854775807) : wrap64 x = x := by unfold wrap64; omega

set_option maxHeartbeats 8000000 in
theorem spongePieces_walk (m : Int) (f : UInt8) (A : Option Addr) (n c : Nat) (xs : List UInt8) (B : Option Addr) (nb d : Nat) (cs : List UInt8) (Z : Int) (C : Option Addr) (np cp : Nat) (qs : List UInt8) (w : World) (hm1 : -9223372036854775808 ≤ m) (hm2 : m ≤ 9223372036854775807) (hA : Rd w 1 A n (xs.map vb)) (hc : n ≤ c) (hB : Rd w 1 B nb (cs.map vb)) (hnb : nb ≤ 1048576) (hC : Rd w 1 C np (qs.map vb)) (hnp : np ≤ 1048576) (hZ1 : -9223372036854775808 ≤ Z) (hZ2 : Z ≤ 9223372036854775807) (hn : n ≤ 1048576) :
    Calls Try.prog 4 #[.int .i64 m, .int .u8 (f.toNat : Int), .agg #[.slice A n c, .slice B nb d, .int .i64 Z, .slice C np cp]] w fun e w' => e = .returned (.bool true) ∧ Below w.heap.size w w' := by
  have hl : xs.length = n := by simpa using hA.1
  have HL := Lib.hid hl
  clear hl
  have H0 := St.start_lay w []
  by_cases hbig : 3000 < n
  · have hb : decide ((n : Int) > 3000) = true := by simp; omega
    clear hbig
    go_enter Try.func4, Try.ntmps4
    go_wp2_with fail
    refine absorb_calls (H0.allocAt 0 rfl w.heap.size rfl _ _ |>.push_mk rfl) ?_
    intro w1 H
    generalize w.heap.size = gX at H ⊢
    refine (lives_s).mono ?_
    rintro e w2 ⟨rfl, hb2⟩
    replace H := H.call hb2
    have x0 := H.cell 0 rfl (o := 0) rfl
    go_wp2
    go_ret
    exact ⟨rfl, H.below⟩
  · have hb : decide ((n : Int) > 3000) = false := by simp; omega
    have hn3 : n ≤ 3000 := by omega
    clear hbig hn
    go_enter Try.func4, Try.ntmps4
    go_wp2_with fail
    refine absorb_calls (H0.allocAt 0 rfl w.heap.size rfl _ _ |>.push_mk rfl) ?_
    intro w1 H
    clear H0
    generalize w.heap.size = gX at H ⊢
    refine (lives_s).mono ?_
    rintro e w2 ⟨rfl, hb2⟩
    replace H := H.call hb2
    clear hb2
    replace H : St w [] w2 (lay [.blk gX 45 [.slice A n c, .slice B nb d, .int .i64 Z, .slice C np cp]]) := H
    have x0 := H.cell 0 rfl (o := 0) rfl
    go_wp2_with fail
    refine (rateOf_s m hm1 hm2).mono ?_
    rintro e w3 ⟨⟨r, rfl, r1, r2, r3, -⟩, rfl⟩
    have x2 := H.cell 0 rfl (o := 2) rfl
    go_wp2_with fail
    refine (pick_any Z 3000 _ hZ1 hZ2 (by omega) (by omega) rfl).mono ?_
    rintro e w3 ⟨⟨N, hN, -, rfl⟩, rfl⟩
    clear x0 x2
    go_wp2_with fail
    refine (spNew_s r f H 1 rfl r1 r2 r3).mono ?_
    rintro e w3 ⟨ga, rfl, H1⟩
    replace H := H1.push_mk rfl
    clear H1
    unfold lptr
    go_wp2_with fail
    refine (spNew_s r f H 2 rfl r1 r2 r3).mono ?_
    rintro e w3 ⟨gb, rfl, H1⟩
    replace H := H1.push_mk rfl
    clear H1
    have hx : Hid ((Sp.new r.toNat f).Ok ∧ (Sp.new r.toNat f).s = false ∧ (Sp.new r.toNat f).p = 0 ∧ ((Sp.new r.toNat f).r : Int) = r) := ⟨Sp.new_ok _ _ (by omega) (by omega), rfl, rfl, by show ((r.toNat : Nat) : Int) = r; omega⟩
    generalize Sp.new r.toNat f = x at H hx
    unfold lptr
    go_wp2_with fail
    refine (ledger_new H 3 rfl).mono ?_
    rintro e w4 ⟨l, rfl, H1⟩
    replace H := H1.push_mk rfl
    clear H1
    go_wp2_with fail
    refine (ledger_new H 4 rfl).mono ?_
    rintro e w4 ⟨k, rfl, H1⟩
    replace H := H1.push_mk rfl
    clear H1
    replace H : St w [] w4 (lay [.blk gX 45 [.slice A n c, .slice B nb d, .int .i64 Z, .slice C np cp], .blk ga 71 x.vs, .blk gb 71 x.vs, led l (some []), led k (some [])]) := H
    have x0 := H.cell 0 rfl (o := 0) rfl
    have x1 := H.cell 0 rfl (o := 1) rfl
    go_wp2_with fail
    refine (cutInto_s A n c xs B nb d cs w4 (H.arg0 hA) (H.arg0 hB) (by omega) (by omega) hc).mono ?_
    rintro e w5 ⟨V, ps, rfl, hps, HN⟩
    replace H := H.also HN
    clear HN x0 x1
    have hpsl : ps.length ≤ 1048577 := by
      have h1 := congrArg List.length hps
      have h2 := cutB_len cs xs
      have h3 : cs.length = nb := by simpa using hB.1
      rw [List.length_map] at h1
      omega
    have HP := Lib.hid hps
    clear hps
    obtain ⟨AV, cV, rfl, -, hAV⟩ := row_form (H.row 5 rfl)
    replace H : St w [] w5 (lay [.blk gX 45 [.slice A n c, .slice B nb d, .int .i64 Z, .slice C np cp], .blk ga 71 x.vs, .blk gb 71 x.vs, led l (some []), led k (some []), .row 27 1 (.slice AV ps.length cV) ps.length (ps.map Pc.v), bigO Pc.own ps]) := H
    go_wp2
    have HLP : Hid ((ps.map Pc.l).flatten = xs) := by unfold Hid; rw [HP.out, cutB_flat]
    have hxr : 8 ≤ x.r := hx.out.1.r8
    have hxr2 : x.r ≤ 192 := hx.out.1.r192
    have hx0 := hx.out.2.2.1
    have HX0 := Lib.hid hx0
    clear hx0
    go_loopw [16] (fun i wr => ∃ j : Nat, j ≤ ps.length ∧ i = .int .i64 j ∧ St w [] wr (lay [.blk gX 45 [.slice A n c, .slice B nb d, .int .i64 Z, .slice C np cp], .blk ga 71 (x.write (flatTo (ps.map Pc.l) j)).vs, .blk gb 71 x.vs, led l (noteN (some []) 3 200 ((flatTo (ps.map Pc.l) j).length / x.r)), led k (some []), .row 27 1 (.slice AV ps.length cV) ps.length (ps.map Pc.v), bigO Pc.own ps])) (fun i _ => ps.length - (intOf i).toNat)
    case atStart => exact ⟨0, Nat.zero_le _, rfl, by rw [show (flatTo (ps.map Pc.l) 0).length / x.r = 0 from Nat.zero_div _]; exact H⟩
    case round =>
      clear H
      obtain ⟨j, hj, rfl, H⟩ := hrel
      by_cases hlt : j < ps.length
      · obtain ⟨pc, hpc⟩ : ∃ v, ps[j]? = some v := ⟨_, List.getElem?_eq_getElem hlt⟩
        obtain ⟨gV, rfl, -⟩ := hAV (by omega)
        have c0 := World.ownsRow.cellAt (H.row 5 rfl) j (by omega)
        rw [List.getElem?_map, hpc] at c0
        simp only [Option.map_some, Pc.v] at c0
        have HPC := Lib.hid hpc
        have HFS := Lib.hid (flatTo_succ (L := ps.map Pc.l) (i := j) (x := pc.l) (by rw [List.getElem?_map, hpc]; rfl))
        have hle := flatTo_le (ps.map Pc.l) j
        have hle2 := flatTo_le (ps.map Pc.l) (j + 1)
        rw [HLP.out, HL.out] at hle hle2
        rw [HFS.out, List.length_append] at hle2
        have hpl : pc.l.length = pc.n := by
          obtain ⟨G, hG⟩ := H.bigRow 6 rfl hpc
          have := hG.1.1
          simpa using this
        have HPL := Lib.hid hpl
        have hok := Sp.write_ok (flatTo (ps.map Pc.l) j) hx.out.1 (by rw [HX0.out]; omega)
        have hr0 := Sp.write_r (flatTo (ps.map Pc.l) j) x
        have hp0 := Sp.write_p (x := x) (flatTo (ps.map Pc.l) j) (by rw [HX0.out]; omega)
        rw [HX0.out, Nat.zero_add] at hp0
        have HW : Hid ((x.write (flatTo (ps.map Pc.l) j)).Ok ∧ (x.write (flatTo (ps.map Pc.l) j)).s = false ∧ (x.write (flatTo (ps.map Pc.l) j)).r = x.r ∧ (x.write (flatTo (ps.map Pc.l) j)).p = (flatTo (ps.map Pc.l) j).length % x.r) := ⟨hok.1, by rw [hr0.2.2]; exact hx.out.2.1, hr0.1, hp0⟩
        have HWS : Hid (x.write (flatTo (ps.map Pc.l) (j + 1)) = (x.write (flatTo (ps.map Pc.l) j)).write pc.l) := by unfold Hid; rw [HFS.out, Sp.write_append]
        have HCN : Hid ((flatTo (ps.map Pc.l) (j + 1)).length / x.r = (flatTo (ps.map Pc.l) j).length / x.r + ((flatTo (ps.map Pc.l) j).length % x.r + pc.n) / x.r) := by unfold Hid; rw [count_add _ _ _ (by omega), HFS.out, List.length_append, HPL.out]
        have hcn : (flatTo (ps.map Pc.l) j).length / x.r ≤ 3000 := Nat.le_trans (Nat.div_le_self _ _) (Nat.le_trans hle hn3)
        have hpn : pc.n ≤ 3000 := by rw [← hpl]; exact Nat.le_trans (Nat.le_add_left _ _) (Nat.le_trans hle2 hn3)
        have hj1 : (j : Int) < ps.length := by omega
        clear hpc hok hr0 hp0 hpl hle hle2
        go_wp2_with fail
        refine (spWrite_s l _ 1 ((flatTo (ps.map Pc.l) j).length / x.r : Nat) ga _ pc.A pc.n pc.c pc.l H 3 1 (by omega) rfl rfl ((LW.nil.noteN 3 200 _).more (by omega) (by omega)) (by omega) (by omega) HW.out.1 HW.out.2.1 (fun w' X Y h => by obtain ⟨G, hG⟩ := h.bigRow 6 rfl HPC.out; exact Rd.of_own hG.1) (by omega)).mono ?_
        rintro e w6 ⟨rfl, H6⟩
        rw [upd_laid (by simp), upd_laid (by simp), noteN_noteN, HW.out.2.2.1, HW.out.2.2.2, ← HCN.out, ← HWS.out] at H6
        replace H6 : St w [] w6 (lay [.blk gX 45 [.slice A n c, .slice B nb d, .int .i64 Z, .slice C np cp], .blk ga 71 (x.write (flatTo (ps.map Pc.l) (j + 1))).vs, .blk gb 71 x.vs, led l (noteN (some []) 3 200 ((flatTo (ps.map Pc.l) (j + 1)).length / x.r)), led k (some []), .row 27 1 (.slice (some ⟨gV, 0, none⟩) ps.length cV) ps.length (ps.map Pc.v), bigO Pc.own ps]) := H6
        clear c0 H
        go_wp2
        go_roundw
        case rel => exact ⟨j + 1, by omega, by go_num, H6⟩
        case measure => simp [intOf]; omega
      · obtain rfl : j = ps.length := by omega
        have HYW : Hid ((x.write xs).Ok ∧ (x.write xs).s = false ∧ (x.write xs).r = x.r) := by
          have h1 := Sp.write_ok xs hx.out.1 (by rw [HX0.out]; omega)
          have h2 := Sp.write_r xs x
          exact ⟨h1.1, by rw [h2.2.2]; exact hx.out.2.1, h2.1⟩
        rw [show flatTo (ps.map Pc.l) ps.length = xs by rw [← List.length_map (f := Pc.l), flatTo_all]; exact HLP.out, HL.out, noteN_runs] at H
        have HBW : Hid (x.write xs = x.write xs) := rfl
        obtain ⟨q, hq⟩ : ∃ q, n / x.r = q := ⟨_, rfl⟩
        have hq1 : q ≤ 3000 := by rw [← hq]; exact Nat.le_trans (Nat.div_le_self _ _) hn3
        rw [hq] at H
        have HQ := Lib.hid hq
        have HQI : Hid (IntKind.i64.wrap ((n : Int) / r) = (q : Int)) := by
          unfold Hid
          rw [← hx.out.2.2.2, ← Int.natCast_ediv, hq]
          exact IntWalk.i64_in _ (by omega)
        clear hq
        generalize hy : x.write xs = y at H HYW
        have HY := Lib.hid hy
        clear hy HBW
        replace H : St w [] wr (lay [.blk gX 45 [.slice A n c, .slice B nb d, .int .i64 Z, .slice C np cp], .blk ga 71 y.vs, .blk gb 71 x.vs, led l (some (runsOf q)), led k (some []), .row 27 1 (.slice AV ps.length cV) ps.length (ps.map Pc.v), bigO Pc.own ps]) := H
        have hr0 : ¬ r = 0 := by omega
        go_wp2
        replace H := H.drew
        refine wp_region_held_drew (S := fun w' : World => w'.cell? ⟨gX, 0, none⟩ = some (.slice A n c)) (by kernel_rfl) ?_ (fun hHeld => ?_)
        · exact H.cell 0 rfl (o := 0) rfl
        refine takeV 0 rfl (by intro w h; clear h; go_simp; try with_reducible rfl) (by kernel_rfl) (by kernel_rfl) (by kernel_rfl) (by exact fun _ _ _ h => h) (by rfl) (by assumption) ?_
        try simp only [Act.put, List.setIfInBounds_toArray, List.set_cons_zero, List.set_cons_succ]
        refine takeV 1 rfl (by intro w h; clear h; go_simp; try with_reducible rfl) (by kernel_rfl) (by kernel_rfl) (by kernel_rfl) (by exact fun _ _ _ h => h) (by rfl) (by assumption) ?_
        try simp only [Act.put, List.setIfInBounds_toArray, List.set_cons_zero, List.set_cons_succ]
        refine takeV 2 rfl (by intro w h; clear h; go_simp; try with_reducible rfl) (by kernel_rfl) (by kernel_rfl) (by kernel_rfl) (by exact fun _ _ _ h => h) (by rfl) (by assumption) ?_
        try simp only [Act.put, List.setIfInBounds_toArray, List.set_cons_zero, List.set_cons_succ]
        refine takeV 3 rfl (by intro w h; have hc := h; clear h; go_simp; try with_reducible rfl) (by kernel_rfl) (by kernel_rfl) (by kernel_rfl) (by exact fun _ _ _ h => h) (by rfl) (by assumption) ?_
        try simp only [Act.put, List.setIfInBounds_toArray, List.set_cons_zero, List.set_cons_succ]
        refine take_call 4 rfl (by kernel_rfl) (fun K hK => ?_)
        try go_simp
        refine (spWrite_s k (some []) 0 0 gb x A n c xs H 4 2 (by omega) rfl rfl LW.nil (by omega) (by omega) hx.out.1 hx.out.2.1 (fun w' X Y h => h.arg0 hA) (by omega)).mono ?_
        rintro e wx ⟨rfl, H6⟩
        rw [upd_laid (by simp), upd_laid (by simp), HX0.out, Nat.zero_add, noteN_runs, HQ.out, HY.out] at H6
        replace H : St w [] wx (lay [.blk gX 45 [.slice A n c, .slice B nb d, .int .i64 Z, .slice C np cp], .blk ga 71 y.vs, .blk gb 71 y.vs, led l (some (runsOf q)), led k (some (runsOf q)), .row 27 1 (.slice AV ps.length cV) ps.length (ps.map Pc.v), bigO Pc.own ps]) := H6
        clear H6
        refine hK.out _ _ ?_ (fun hHeld => ?_)
        · exact H.cell 0 rfl (o := 0) rfl
        clear hK K
        try simp only [Act.put, List.setIfInBounds_toArray, List.set_cons_zero, List.set_cons_succ]
        refine takeV 5 rfl (by intro w h; clear h; go_simp; try with_reducible rfl) (by kernel_rfl) (by kernel_rfl) (by kernel_rfl) (by exact fun _ _ _ h => h) (by rfl) (by assumption) ?_
        try simp only [Act.put, List.setIfInBounds_toArray, List.set_cons_zero, List.set_cons_succ]
        refine takeV 6 rfl (by intro w h; clear h; go_simp; try with_reducible rfl) (by kernel_rfl) (by kernel_rfl) (by kernel_rfl) (by exact fun _ _ _ h => h) (by rfl) (by assumption) ?_
        try simp only [Act.put, List.setIfInBounds_toArray, List.set_cons_zero, List.set_cons_succ]
        refine takeV 7 rfl (by intro w h; clear h; go_simp; try with_reducible rfl) (by kernel_rfl) (by kernel_rfl) (by kernel_rfl) (by exact fun _ _ _ h => h) (by rfl) (by assumption) ?_
        try simp only [Act.put, List.setIfInBounds_toArray, List.set_cons_zero, List.set_cons_succ]
        refine takeV 9 rfl (by intro w h; clear h; go_simp; try with_reducible rfl) (by kernel_rfl) (by kernel_rfl) (by kernel_rfl) (by exact fun _ _ _ h => h) (by rfl) (by assumption) ?_
        try simp only [Act.put, List.setIfInBounds_toArray, List.set_cons_zero, List.set_cons_succ]
        refine takeV 10 rfl (by intro w h; have hc := h; clear h; go_simp; try with_reducible rfl) (by kernel_rfl) (by kernel_rfl) (by kernel_rfl) (by exact fun _ _ _ h => h) (by rfl) (by assumption) ?_
        try simp only [Act.put, List.setIfInBounds_toArray, List.set_cons_zero, List.set_cons_succ]
        refine takeV 11 rfl (by intro w h; clear h; go_simp; try with_reducible rfl) (by kernel_rfl) (by kernel_rfl) (by kernel_rfl) (by exact fun _ _ _ h => h) (by rfl) (by assumption) ?_
        try simp only [Act.put, List.setIfInBounds_toArray, List.set_cons_zero, List.set_cons_succ]
        refine takeV 12 rfl (by intro w h; clear h; go_simp; try with_reducible rfl) (by kernel_rfl) (by kernel_rfl) (by kernel_rfl) (by exact fun _ _ _ h => h) (by rfl) (by assumption) ?_
        try simp only [Act.put, List.setIfInBounds_toArray, List.set_cons_zero, List.set_cons_succ]
        refine takeV 13 rfl (by intro w h; clear h; go_simp; try with_reducible rfl) (by kernel_rfl) (by kernel_rfl) (by kernel_rfl) (by exact fun _ _ _ h => h) (by rfl) (by assumption) ?_
        try simp only [Act.put, List.setIfInBounds_toArray, List.set_cons_zero, List.set_cons_succ]
        rw [HQI.out]
        refine take_call 8 rfl (by kernel_rfl) (fun K hK => ?_)
        try go_simp
        refine (ledger_len_w H 3 rfl).mono ?_
        rintro e wx ⟨rfl, rfl⟩
        rw [total_runs]
        refine hK.out _ _ ?_ (fun hHeld => ?_)
        · exact H.cell 0 rfl (o := 0) rfl
        clear hK K
        try simp only [Act.put, List.setIfInBounds_toArray, List.set_cons_zero, List.set_cons_succ]
        refine takeV 14 rfl (by intro w h; clear h; go_simp; try with_reducible rfl) (by kernel_rfl) (by kernel_rfl) (by kernel_rfl) (by exact fun _ _ _ h => h) (by rfl) (by assumption) ?_
        try simp only [Act.put, List.setIfInBounds_toArray, List.set_cons_zero, List.set_cons_succ]
        refine takeV 15 rfl (by intro w h; clear h; go_simp; try with_reducible rfl) (by kernel_rfl) (by kernel_rfl) (by kernel_rfl) (by exact fun _ _ _ h => h) (by rfl) (by assumption) ?_
        try simp only [Act.put, List.setIfInBounds_toArray, List.set_cons_zero, List.set_cons_succ]
        refine takeV 16 rfl (by intro w h; clear h; go_simp; try with_reducible rfl) (by kernel_rfl) (by kernel_rfl) (by kernel_rfl) (by exact fun _ _ _ h => h) (by rfl) (by assumption) ?_
        try simp only [Act.put, List.setIfInBounds_toArray, List.set_cons_zero, List.set_cons_succ]
        refine takeV 17 rfl (by intro w h; clear h; go_simp; try with_reducible rfl) (by kernel_rfl) (by kernel_rfl) (by kernel_rfl) (by exact fun _ _ _ h => h) (by rfl) (by assumption) ?_
        try simp only [Act.put, List.setIfInBounds_toArray, List.set_cons_zero, List.set_cons_succ]
        refine takeV 19 rfl (by intro w h; clear h; go_simp; try with_reducible rfl) (by kernel_rfl) (by kernel_rfl) (by kernel_rfl) (by exact fun _ _ _ h => h) (by rfl) (by assumption) ?_
        try simp only [Act.put, List.setIfInBounds_toArray, List.set_cons_zero, List.set_cons_succ]
        refine take_call 18 rfl (by kernel_rfl) (fun K hK => ?_)
        try go_simp
        refine (ledger_len_w H 4 rfl).mono ?_
        rintro e wx ⟨rfl, rfl⟩
        rw [total_runs]
        refine hK.out _ _ ?_ (fun hHeld => ?_)
        · exact H.cell 0 rfl (o := 0) rfl
        clear hK K
        try simp only [Act.put, List.setIfInBounds_toArray, List.set_cons_zero, List.set_cons_succ]
        refine take_call 20 rfl (by kernel_rfl) (fun K hK => ?_)
        try go_simp
        refine (ledger_len_w H 3 rfl).mono ?_
        rintro e wx ⟨rfl, rfl⟩
        rw [total_runs]
        refine hK.out _ _ ?_ (fun hHeld => ?_)
        · exact H.cell 0 rfl (o := 0) rfl
        clear hK K
        try simp only [Act.put, List.setIfInBounds_toArray, List.set_cons_zero, List.set_cons_succ]
        refine takeV 21 rfl (by intro w h; clear h; go_simp; try with_reducible rfl) (by kernel_rfl) (by kernel_rfl) (by kernel_rfl) (by exact fun _ _ _ h => h) (by rfl) (by assumption) ?_
        try simp only [Act.put, List.setIfInBounds_toArray, List.set_cons_zero, List.set_cons_succ]
        refine takeV 22 rfl (by intro w h; clear h; go_simp; try with_reducible rfl) (by kernel_rfl) (by kernel_rfl) (by kernel_rfl) (by exact fun _ _ _ h => h) (by rfl) (by assumption) ?_
        try simp only [Act.put, List.setIfInBounds_toArray, List.set_cons_zero, List.set_cons_succ]
        refine takeV 23 rfl (by intro w h; clear h; go_simp; try with_reducible rfl) (by kernel_rfl) (by kernel_rfl) (by kernel_rfl) (by exact fun _ _ _ h => h) (by rfl) (by assumption) ?_
        try simp only [Act.put, List.setIfInBounds_toArray, List.set_cons_zero, List.set_cons_succ]
        refine takeV 24 rfl (by intro w h; clear h; go_simp; try with_reducible rfl) (by kernel_rfl) (by kernel_rfl) (by kernel_rfl) (by exact fun _ _ _ h => h) (by rfl) (by assumption) ?_
        try simp only [Act.put, List.setIfInBounds_toArray, List.set_cons_zero, List.set_cons_succ]
        refine takeV 26 rfl (by intro w h; clear h; go_simp; try with_reducible rfl) (by kernel_rfl) (by kernel_rfl) (by kernel_rfl) (by exact fun _ _ _ h => h) (by rfl) (by assumption) ?_
        try simp only [Act.put, List.setIfInBounds_toArray, List.set_cons_zero, List.set_cons_succ]
        refine take_call 25 rfl (by kernel_rfl) (fun K hK => ?_)
        try go_simp
        refine (spForm_s ga y H 1 7 rfl rfl HYW.out.1).mono ?_
        rintro e wx ⟨v7, rfl, H6⟩
        replace H := H6.push_mk rfl
        clear H6
        obtain ⟨A7, c7, rfl, hc7, -⟩ := row_form (H.row 7 rfl)
        refine hK.out _ _ ?_ (fun hHeld => ?_)
        · exact H.cell 0 rfl (o := 0) rfl
        clear hK K
        try simp only [Act.put, List.setIfInBounds_toArray, List.set_cons_zero, List.set_cons_succ]
        refine take_call 27 rfl (by kernel_rfl) (fun K hK => ?_)
        try go_simp
        refine (spForm_s gb y H 2 8 rfl rfl HYW.out.1).mono ?_
        rintro e wx ⟨v8, rfl, H6⟩
        replace H := H6.push_mk rfl
        clear H6
        obtain ⟨A8, c8, rfl, hc8, -⟩ := row_form (H.row 8 rfl)
        refine hK.out _ _ ?_ (fun hHeld => ?_)
        · exact H.cell 0 rfl (o := 0) rfl
        clear hK K
        try simp only [Act.put, List.setIfInBounds_toArray, List.set_cons_zero, List.set_cons_succ]
        refine take_call 28 rfl (by kernel_rfl) (fun K hK => ?_)
        try go_simp
        refine (sameBytes_yes A7 A8 203 203 c7 c8 y.form y.form _ (H.rd 7 rfl) (H.rd 8 rfl) (by omega) (by omega) rfl).mono ?_
        rintro e wx ⟨rfl, hb9⟩
        replace H := H.call hb9
        clear hb9
        refine hK.out _ _ ?_ (fun hHeld => ?_)
        · exact H.cell 0 rfl (o := 0) rfl
        clear hK K
        try simp only [Act.put, List.setIfInBounds_toArray, List.set_cons_zero, List.set_cons_succ]
        refine takeV 29 rfl (by intro w h; clear h; go_simp; try with_reducible rfl) (by kernel_rfl) (by kernel_rfl) (by kernel_rfl) (by exact fun _ _ _ h => h) (by rfl) (by assumption) ?_
        try simp only [Act.put, List.setIfInBounds_toArray, List.set_cons_zero, List.set_cons_succ]
        refine takeV 30 rfl (by intro w h; clear h; go_simp; try with_reducible rfl) (by kernel_rfl) (by kernel_rfl) (by kernel_rfl) (by exact fun _ _ _ h => h) (by rfl) (by assumption) ?_
        try simp only [Act.put, List.setIfInBounds_toArray, List.set_cons_zero, List.set_cons_succ]
        refine takeV 31 rfl (by intro w h; clear h; go_simp; try with_reducible rfl) (by kernel_rfl) (by kernel_rfl) (by kernel_rfl) (by exact fun _ _ _ h => h) (by rfl) (by assumption) ?_
        try simp only [Act.put, List.setIfInBounds_toArray, List.set_cons_zero, List.set_cons_succ]
        refine takeV 32 rfl (by intro w h; clear h; go_simp; try with_reducible rfl) (by kernel_rfl) (by kernel_rfl) (by kernel_rfl) (by exact fun _ _ _ h => h) (by rfl) (by assumption) ?_
        try simp only [Act.put, List.setIfInBounds_toArray, List.set_cons_zero, List.set_cons_succ]
        refine takeV 33 rfl (by intro w h; clear h; go_simp; try with_reducible rfl) (by kernel_rfl) (by kernel_rfl) (by kernel_rfl) (by exact fun _ _ _ h => h) (by rfl) (by assumption) ?_
        try simp only [Act.put, List.setIfInBounds_toArray, List.set_cons_zero, List.set_cons_succ]
        refine take_call 34 rfl (by kernel_rfl) (fun K hK => ?_)
        try go_simp
        refine (spClose_s l (some (runsOf q)) 1 q ga y H 3 1 (by omega) rfl rfl (by rw [← noteN_runs]; exact (LW.nil.noteN 3 200 q).more (by omega) (by omega)) (by omega) (by omega) HYW.out.1 HYW.out.2.1).mono ?_
        rintro e wx ⟨rfl, H6⟩
        rw [upd_laid (by simp), upd_laid (by simp), ← noteN_runs q, noteN_noteN, noteN_runs, noteN_runs] at H6
        replace H : St w [] wx (lay [.blk gX 45 [.slice A n c, .slice B nb d, .int .i64 Z, .slice C np cp], .blk ga 71 y.close.vs, .blk gb 71 y.vs, led l (some (runsOf (q + 1))), led k (some (runsOf q)), .row 27 1 (.slice AV ps.length cV) ps.length (ps.map Pc.v), bigO Pc.own ps, .row 5 1 (.slice A7 203 c7) 203 (y.form.map vb), .row 5 1 (.slice A8 203 c8) 203 (y.form.map vb)]) := H6
        clear H6
        refine hK.out _ _ ?_ (fun hHeld => ?_)
        · exact H.cell 0 rfl (o := 0) rfl
        clear hK K
        try simp only [Act.put, List.setIfInBounds_toArray, List.set_cons_zero, List.set_cons_succ]
        refine takeV 35 rfl (by intro w h; clear h; go_simp; try with_reducible rfl) (by kernel_rfl) (by kernel_rfl) (by kernel_rfl) (by exact fun _ _ _ h => h) (by rfl) (by assumption) ?_
        try simp only [Act.put, List.setIfInBounds_toArray, List.set_cons_zero, List.set_cons_succ]
        refine takeV 36 rfl (by intro w h; clear h; go_simp; try with_reducible rfl) (by kernel_rfl) (by kernel_rfl) (by kernel_rfl) (by exact fun _ _ _ h => h) (by rfl) (by assumption) ?_
        try simp only [Act.put, List.setIfInBounds_toArray, List.set_cons_zero, List.set_cons_succ]
        refine wpAnyH_done (by kernel_rfl) ?_ _
        go_wp2_with fail
        refine (spRead_s k (some (runsOf q)) 1 q gb y N N rfl H 4 2 9 (by omega) rfl rfl rfl (by rw [← noteN_runs]; exact (LW.nil.noteN 3 200 q).more (by omega) (by omega)) (by omega) (by omega) HYW.out.1 (by omega)).mono ?_
        rintro e wx ⟨v9, rfl, H6⟩
        clear H
        have hS : y.shut = y.close := by unfold Sp.shut; rw [HYW.out.2.1]; rfl
        have hSN : y.shutN = 1 := by unfold Sp.shutN; rw [HYW.out.2.1]; rfl
        have hD : y.shutN + (y.shut.p + N - 1) / y.r = 1 + (N - 1) / x.r := by rw [hSN, hS, HYW.out.2.2, show y.close.p = 0 from rfl, Nat.zero_add]
        rw [hD, hS, ← noteN_runs q, noteN_noteN, noteN_runs, noteN_runs, upd_laid (by simp), upd_laid (by simp)] at H6
        replace H := H6.push_mk rfl
        clear H6 hD hS hSN
        have HRL : Hid ((y.close.read N).length = N) := by
          unfold Hid
          rw [Sp.read_length]
        generalize hz : y.close.read N = zs at H HRL
        have HZ := Lib.hid hz
        clear hz
        obtain ⟨A9, c9, rfl, hc9, -⟩ := row_form (H.row 9 rfl)
        have x3 := H.cell 0 rfl (o := 3) rfl
        go_wp2_with fail
        refine (cutInto_s A9 N c9 zs C np cp qs _ (H.rd 9 rfl) (H.arg0 hC) (by omega) (by omega) hc9).mono ?_
        rintro e w7 ⟨V2, pt, rfl, hpt, HN2⟩
        replace H := H.also HN2
        clear HN2 x3
        have hptl : pt.length ≤ 1048577 := by
          have h1 := congrArg List.length hpt
          have h2 := cutB_len qs zs
          have h3 : qs.length = np := by simpa using hC.1
          have h4 := HRL.out
          rw [List.length_map] at h1
          omega
        have HPT := Lib.hid hpt
        clear hpt
        have HZP : Hid ((pt.map Pc.l).flatten = zs) := by unfold Hid; rw [HPT.out, cutB_flat]
        replace H : St w [] w7 (lay [.blk gX 45 [.slice A n c, .slice B nb d, .int .i64 Z, .slice C np cp], .blk ga 71 y.close.vs, .blk gb 71 (y.close.after N).vs, led l (some (runsOf (q + 1))), led k (some (runsOf (q + (1 + (N - 1) / x.r)))), .row 27 1 (.slice AV ps.length cV) ps.length (ps.map Pc.v), bigO Pc.own ps, .row 5 1 (.slice A7 203 c7) 203 (y.form.map vb), .row 5 1 (.slice A8 203 c8) 203 (y.form.map vb), .row 5 1 (.slice A9 N c9) N (zs.map vb), .row 27 1 V2 pt.length (pt.map Pc.v), bigO Pc.own pt]) := H
        obtain ⟨BV, cW, rfl, -, hBV⟩ := row_form (H.row 10 rfl)
        go_wp2_with fail
        go_loopw [18, 20] (fun v i wr => ∃ j : Nat, j ≤ pt.length ∧ i = .int .i64 j ∧ St w [] wr (lay [.blk gX 45 [.slice A n c, .slice B nb d, .int .i64 Z, .slice C np cp], .blk ga 71 (y.close.after (flatTo (pt.map Pc.l) j).length).vs, .blk gb 71 (y.close.after N).vs, led l (some (runsOf (q + 1 + ((flatTo (pt.map Pc.l) j).length - 1) / x.r))), led k (some (runsOf (q + (1 + (N - 1) / x.r)))), .row 27 1 (.slice AV ps.length cV) ps.length (ps.map Pc.v), bigO Pc.own ps, .row 5 1 (.slice A7 203 c7) 203 (y.form.map vb), .row 5 1 (.slice A8 203 c8) 203 (y.form.map vb), .row 5 1 (.slice A9 N c9) N (zs.map vb), .row 27 1 (.slice BV pt.length cW) pt.length (pt.map Pc.v), bigO Pc.own pt, .row 5 1 v (flatTo (pt.map Pc.l) j).length ((y.close.read (flatTo (pt.map Pc.l) j).length).map vb)])) (fun _ i _ => pt.length - (intOf i).toNat)
        case atStart => exact ⟨0, Nat.zero_le _, rfl, (by rw [show ((flatTo (pt.map Pc.l) 0).length - 1) / x.r = 0 from Nat.zero_div _]; exact (H.nilRow 12 rfl 5 1).push_mk rfl)⟩
        case round =>
          clear H
          obtain ⟨j, hj, rfl, H⟩ := hrel
          by_cases hlt : j < pt.length
          · obtain ⟨pc, hpc⟩ : ∃ v, pt[j]? = some v := ⟨_, List.getElem?_eq_getElem hlt⟩
            obtain ⟨gW, rfl, -⟩ := hBV (by omega)
            have c0 := World.ownsRow.cellAt (H.row 10 rfl) j (by omega)
            rw [List.getElem?_map, hpc] at c0
            simp only [Option.map_some, Pc.v] at c0
            have hj1 : (j : Int) < pt.length := by omega
            have HPC := Lib.hid hpc
            have HFS := Lib.hid (flatTo_succ (L := pt.map Pc.l) (i := j) (x := pc.l) (by rw [List.getElem?_map, hpc]; rfl))
            have hle := flatTo_le (pt.map Pc.l) j
            have hle2 := flatTo_le (pt.map Pc.l) (j + 1)
            rw [HZP.out, HRL.out] at hle hle2
            have hpl : pc.l.length = pc.n := by
              obtain ⟨G, hG⟩ := H.bigRow 11 rfl hpc
              have := hG.1.1
              simpa using this
            rw [HFS.out, List.length_append, hpl] at hle2
            have HFL : Hid ((flatTo (pt.map Pc.l) (j + 1)).length = (flatTo (pt.map Pc.l) j).length + pc.n) := by unfold Hid; rw [HFS.out, List.length_append, hpl]
            generalize (flatTo (pt.map Pc.l) j).length = t at H hle hle2 HFL
            have hpn : pc.n ≤ 3000 := by omega
            have hcl := Sp.close_ok HYW.out.1
            have hao := Sp.after_ok hcl.1 hcl.2.1 t
            have hyr : y.close.r = x.r := hcl.2.2.1.trans HYW.out.2.2
            have HAO : Hid ((y.close.after t).Ok ∧ (y.close.after t).shut = y.close.after t ∧ (y.close.after t).shutN = 0 ∧ (y.close.after t).r = x.r) := ⟨hao.1, by unfold Sp.shut; rw [if_pos hao.2.2.1], by unfold Sp.shutN; rw [if_pos hao.2.2.1], hao.2.1.trans hyr⟩
            have hcm := Sp.count_more hcl.1 hcl.2.1 t pc.n
            rw [hyr, show y.close.p = 0 from rfl, Nat.zero_add, Nat.zero_add] at hcm
            have HCM : Hid (q + 1 + (t - 1) / x.r + (0 + ((y.close.after t).p + pc.n - 1) / x.r) = q + 1 + (t + pc.n - 1) / x.r) := by unfold Hid; rw [Nat.zero_add, Nat.add_assoc, hcm]
            have hqb : (t - 1) / x.r ≤ 3000 := Nat.le_trans (Nat.div_le_self _ _) (by omega)
            have HRA : Hid (y.close.read (t + pc.n) = y.close.read t ++ (y.close.after t).read pc.n) := Sp.read_add _ _ _
            have HAA : Hid (y.close.after (t + pc.n) = (y.close.after t).after pc.n) := Sp.after_add _ _ _
            clear hpc hcl hao hyr hcm hpl
            obtain ⟨A12, c12, rfl, -, -⟩ := row_form (H.row 12 rfl)
            go_wp2_with fail
            refine (spRead_s l (some (runsOf (q + 1 + (t - 1) / x.r))) 1 ((q + 1 + (t - 1) / x.r : Nat)) ga (y.close.after t) pc.n pc.n rfl H 3 1 13 (by omega) rfl rfl rfl (by rw [← noteN_runs]; exact (LW.nil.noteN 3 200 _).more (by omega) (by omega)) (by omega) (by omega) HAO.out.1 (by omega)).mono ?_
            rintro e w8 ⟨v13, rfl, H6⟩
            clear H c0
            rw [HAO.out.2.1, HAO.out.2.2.1, HAO.out.2.2.2, ← noteN_runs (q + 1 + (t - 1) / x.r), noteN_noteN, HCM.out, noteN_runs (q + 1 + (t + pc.n - 1) / x.r), ← HAA.out, upd_laid (by simp), upd_laid (by simp)] at H6
            replace H := H6.push_mk rfl
            clear H6
            obtain ⟨A13, c13, rfl, -, -⟩ := row_form (H.row 13 rfl)
            obtain ⟨i0, hi0, hz0, hz1, hz2⟩ := info_parts u8_info
            go_wp2_with (at_builtin; refine hold_here' ?_)
            refine Lib.hid ?_
            refine wpList_append_any _ rfl (.tmp 157) (.tmp 158) _ rfl 0 5 i0 _ 1 1 Try.underlying27 hi0 hz0 hz1 hz2 rfl (by omega) (.slice A12 t c12) t ((y.close.read t).map vb) rfl (H.row 12 rfl) A13 pc.n c13 (((y.close.after t).read pc.n).map vb) rfl (H.rd 13 rfl) (vb_one _) (by simp only [maxLen]; omega) (by omega) (by omega) ?_
            intro v6 w6 hown6 hg6 hat6
            replace H := ((H.grow 12 rfl hown6 hg6 hat6).upd_mk (by simp)).front 13
            rw [← List.map_append, ← HRA.out] at H
            clear hown6 hg6 hat6 hi0 hz0 hz1 hz2
            have H8 : St w [] w6 (lay [.blk gX 45 [.slice A n c, .slice B nb d, .int .i64 Z, .slice C np cp], .blk ga 71 (y.close.after (t + pc.n)).vs, .blk gb 71 (y.close.after N).vs, led l (some (runsOf (q + 1 + ((t + pc.n) - 1) / x.r))), led k (some (runsOf (q + (1 + (N - 1) / x.r)))), .row 27 1 (.slice AV ps.length cV) ps.length (ps.map Pc.v), bigO Pc.own ps, .row 5 1 (.slice A7 203 c7) 203 (y.form.map vb), .row 5 1 (.slice A8 203 c8) 203 (y.form.map vb), .row 5 1 (.slice A9 N c9) N (zs.map vb), .row 27 1 (.slice (some ⟨gW, 0, none⟩) pt.length cW) pt.length (pt.map Pc.v), bigO Pc.own pt, .row 5 1 v6 (t + pc.n) ((y.close.read (t + pc.n)).map vb)]) := H
            clear H
            go_wp2
            go_roundw
            case rel => exact ⟨j + 1, by omega, by go_num, by rw [HFL.out]; exact H8⟩
            case measure => simp [intOf]; omega
          · obtain rfl : j = pt.length := by omega
            have HFE : Hid ((flatTo (pt.map Pc.l) pt.length).length = N) := by unfold Hid; rw [← HRL.out, ← HZP.out, ← flatTo_all, List.length_map]
            rw [HFE.out, HZ.out, Nat.add_assoc] at H
            clear hlt hj
            obtain ⟨A12, c12, rfl, -, -⟩ := row_form (H.row 12 rfl)
            have x0 := H.cell 0 rfl (o := 0) rfl
            generalize hT : q + (1 + (N - 1) / x.r) = T at H
            have HT := Lib.hid hT
            clear hT
            have hq2 : wrap64 ((n : Int) / r) = (q : Int) := by rw [← hx.out.2.2.2, ← Int.natCast_ediv, HQ.out]; exact w64_in (by omega)
            have HW1 : Hid (N = 0 → wrap64 (wrap64 ((n : Int) / r) + 1) = (T : Int)) := by
              intro h0
              rw [hq2, ← HT.out, h0, show (0 - 1) / x.r = 0 from Nat.zero_div _, w64_in (x := (q : Int) + 1) (by omega)]
              omega
            have HW2 : Hid (¬ N = 0 → wrap64 (wrap64 (wrap64 ((n : Int) / r) + 1) + ((N : Int) - 1) / r) = (T : Int)) := by
              intro h0
              have e : ((N : Int) - 1) / r = (((N - 1) / x.r : Nat) : Int) := by rw [← hx.out.2.2.2, show (N : Int) - 1 = ((N - 1 : Nat) : Int) by omega, ← Int.natCast_ediv]
              have hb3 : (N - 1) / x.r ≤ N - 1 := Nat.div_le_self _ _
              rw [hq2, e, ← HT.out]
              clear e
              generalize (N - 1) / x.r = d at hb3 ⊢
              rw [w64_in (x := (q : Int) + 1) (by omega), w64_in (by omega)]
              omega
            have hT2 : T ≤ 7000 := by
              have hb3 : (N - 1) / x.r ≤ N - 1 := Nat.div_le_self _ _
              rw [← HT.out]; omega
            clear hq2
            by_cases hN0 : N = 0
            have HW := HW1.out hN0
            have HWW := Lib.hid HW
            subst hN0
            rotate_left
            have HW := HW2.out hN0
            have HWW := Lib.hid HW
            have hN1 : (0 : Int) < N := by omega
            rotate_left
            all_goals
              clear HW HW1 HW2
              go_wp2_with fail
              rw [HWW.out]
              refine (sameBytes_yes A12 A9 _ _ c12 c9 zs zs _ (H.rd 12 rfl) (H.rd 9 rfl) (by omega) (by omega) rfl).mono ?_
              rintro e wx ⟨rfl, hb⟩
              replace H := H.call hb
              clear hb
              go_wp2_with fail
              refine (ledger_len_w H 3 rfl).mono ?_
              rintro e wx ⟨rfl, rfl⟩
              rw [total_runs]
              go_wp2_with fail
              have hlw : Hid (LW (some (runsOf T)) 1 (T : Int)) := by unfold Hid; rw [← noteN_runs]; exact (LW.nil.noteN 3 200 T).more (by omega) (by omega)
              refine (ledger_runs_w 1 _ H 3 rfl hlw.out (by omega) 13 rfl).mono ?_
              rintro e wx ⟨v13, rfl, H6⟩
              replace H := H6.push_mk rfl
              clear H6
              obtain ⟨A13, c13, rfl, -, -⟩ := row_shape (H.row 13 rfl)
              go_wp2_with fail
              refine (ledger_runs_w 1 _ H 4 rfl hlw.out (by omega) 14 rfl).mono ?_
              rintro e wx ⟨v14, rfl, H6⟩
              replace H := H6.push_mk rfl
              clear H6
              obtain ⟨A14, c14, rfl, -, -⟩ := row_shape (H.row 14 rfl)
              go_wp2_with fail
              have hrl : (runsOf T).length ≤ 1 := by unfold runsOf; split <;> simp
              refine (sameRuns_any A13 A14 c13 c14 (runsOf T) (runsOf T) (H.rd 13 rfl) (H.rd 14 rfl) (by omega) (by omega)).mono ?_
              rintro e wx ⟨rfl, kd, rfl⟩
              replace H := H.drewN kd
              rw [decide_eq_true rfl]
              clear hrl
              have hcl := Sp.close_ok HYW.out.1
              have hok : Hid (∀ t, (y.close.after t).Ok) := fun t => (Sp.after_ok hcl.1 hcl.2.1 t).1
              clear hcl
              go_wp2_with fail
              refine (spForm_s ga _ H 1 15 rfl rfl (hok.out _)).mono ?_
              rintro e wx ⟨v15, rfl, H6⟩
              replace H := H6.push_mk rfl
              clear H6
              obtain ⟨A15, c15, rfl, hc15, -⟩ := row_form (H.row 15 rfl)
              go_wp2_with fail
              refine (spForm_s gb _ H 2 16 rfl rfl (hok.out _)).mono ?_
              rintro e wx ⟨v16, rfl, H6⟩
              replace H := H6.push_mk rfl
              clear H6
              obtain ⟨A16, c16, rfl, hc16, -⟩ := row_form (H.row 16 rfl)
              go_wp2_with fail
              refine (sameBytes_yes A15 A16 203 203 c15 c16 _ _ _ (H.rd 15 rfl) (H.rd 16 rfl) (by omega) (by omega) rfl).mono ?_
              rintro e wx ⟨rfl, hb⟩
              replace H := H.call hb
              clear hb
              go_wp2_with fail
              go_ret
              exact ⟨rfl, H.below⟩

end Go.Proofs.Ytgjlclihgpahbaa
