/- Texts of this claim, merged: Held2, SpR, SpN, SpZ, Pick, LedR, SpL, KecR, KecK, EqArr, KecL, KecA, BackP, KecInv, KecInj, KecBack, KecRB, KecRF, KecRW. -/
import Derived.Test.YtgjlclihgpahbaaRows
import Derived.Laws.StructEq
import Derived.KernelRfl
import Derived.Test.YtgjlclihgpahbaaMgB
set_option linter.unusedVariables false

namespace Go.Proofs.Ytgjlclihgpahbaa
open Go
section
variable {P : Program} {l : List Oper} {Q : Exit → Act → World → Prop} {md : Region.Mode} {S : World → Prop} {o : Oper} {rest : List Oper} {fuel : Nat} {listed : Array Bool} {a : Act} {w : World}
theorem takeM {ty : TypeId} {x : Operand} {d : TypeDesc} (i g off : Nat) (cs : List Value) (hS : ∀ w, S w → w.rangeAt g off cs) (hu : P.underlying ty = some d) (hl : (P.info? ty).map (·.size) = some cs.length)
    (hi : l.drop i = o :: rest) (hs : Region.noSelect l.toArray = true) (hf : Region.free md l.toArray listed i = true) (hr : (Region.ready md l.toArray listed).contains i = true)
    (hQ : ∀ c a w, Q (.panic c) (a.put o.dst (.agg cs.toArray)) w → Q (.panic c) a w) (hd : d.isRow = true) (hw : Region.wanted o (yielded l.toArray a.tmps) = true)
    (ho : o.op = .load ty x) (hx : a.eval x = .pointer (some ⟨g, off, none⟩)) (hSw : S w)
    (h : wpAnyH P md l.toArray Q S fuel (listed.setIfInBounds i true) (a.put o.dst (.agg cs.toArray)) w) : wpAnyH P md l.toArray Q S (fuel + 1) listed a w :=
  wpAnyH_take (drop_at hi) hs hf hr hQ (yieldsIf_load_mid hw ty x ho g off hx cs d hS hu hd hl) hSw h
/-- an operation that is not wanted -/
theorem takeSkip (i : Nat) (hi : l.drop i = o :: rest) (hs : Region.noSelect l.toArray = true) (hf : Region.free md l.toArray listed i = true) (hr : (Region.ready md l.toArray listed).contains i = true)
    (hQ : ∀ c a w, Q (.panic c) (a.put o.dst undef) w → Q (.panic c) a w) (hw : Region.wanted o (yielded l.toArray a.tmps) = false) (hSw : S w)
    (h : wpAnyH P md l.toArray Q S fuel (listed.setIfInBounds i true) (a.put o.dst undef) w) : wpAnyH P md l.toArray Q S (fuel + 1) listed a w :=
  wpAnyH_take (drop_at hi) hs hf hr hQ (.inr ⟨hw, rfl⟩) hSw h
theorem takeTwo {o' : Oper} {rest' : List Oper} (i j : Nat) (hi : l.drop i = o :: rest) (hj : l.drop j = o' :: rest') (hr : Region.ready md l.toArray listed = [i, j])
    (h : ∀ K' : Act → World → Prop, Shut (∀ a w, S w → (S w → wpAnyH P md l.toArray Q S fuel (listed.setIfInBounds i true) a w) → K' a w) → if Region.wanted o (yielded l.toArray a.tmps) = true then Oper.wp P o a w K' Q else K' (a.put o.dst undef) w)
    (h' : ∀ K' : Act → World → Prop, Shut (∀ a w, S w → (S w → wpAnyH P md l.toArray Q S fuel (listed.setIfInBounds j true) a w) → K' a w) → if Region.wanted o' (yielded l.toArray a.tmps) = true then Oper.wp P o' a w K' Q else K' (a.put o'.dst undef) w) :
    wpAnyH P md l.toArray Q S (fuel + 1) listed a w :=
  wpAnyH_ready hr (by simp) (AllReadyH.cons (drop_at hi) h (AllReadyH.cons (drop_at hj) h' AllReadyH.nil))
/-- an operation that reads nothing, its value found by the walk -/
theorem takeV (i : Nat) {v : Value} (hi : l.drop i = o :: rest) (hv : ∀ w, S w → (execOp a.eval o).run P w = .ok (.value v) w) (hs : Region.noSelect l.toArray = true) (hf : Region.free md l.toArray listed i = true) (hr : (Region.ready md l.toArray listed).contains i = true)
    (hQ : ∀ c a w, Q (.panic c) (a.put o.dst v) w → Q (.panic c) a w) (hw : Region.wanted o (yielded l.toArray a.tmps) = true) (hSw : S w)
    (h : wpAnyH P md l.toArray Q S fuel (listed.setIfInBounds i true) (a.put o.dst v) w) : wpAnyH P md l.toArray Q S (fuel + 1) listed a w :=
  wpAnyH_take (drop_at hi) hs hf hr hQ (.inl ⟨hw, hv⟩) hSw h
end
end Go.Proofs.Ytgjlclihgpahbaa

namespace Go.Proofs.Ytgjlclihgpahbaa
open Go.RowKit
set_option linter.unusedVariables false
set_option maxRecDepth 100000

attribute [local irreducible] permB kBytes kPerm kFrom

section
variable {w0 w : World} {F0 : List Nat} {E : Env}

/-- a sponge, shut -/
def Sp.shut (x : Sp) : Sp := if x.s = true then x else x.close

def Sp.shutN (x : Sp) : Nat := if x.s = true then 0 else 1

theorem Sp.shut_ok {x : Sp} (h : x.Ok) : x.shut.Ok ∧ x.shut.s = true ∧ x.shut.r = x.r := by
  unfold Sp.shut
  by_cases hs : x.s = true
  · rw [if_pos hs]; exact ⟨h, hs, rfl⟩
  · rw [if_neg hs]; have := Sp.close_ok h; exact ⟨this.1, this.2.1, this.2.2.1⟩

theorem chunk_at {b : List UInt8} {xs : List Value} {p d j : Nat} {v : Value} (h : (((b.drop p).take d).map vb)[j]? = some v) : (b.map vb ++ xs)[p + j]? = some v := by
  rw [List.getElem?_map, List.getElem?_take] at h
  by_cases hj : j < d
  · rw [if_pos hj, List.getElem?_drop] at h
    have hl : p + j < b.length := by
      rcases Nat.lt_or_ge (p + j) b.length with h1 | h1
      · exact h1
      · rw [List.getElem?_eq_none h1] at h; cases h
    rw [List.getElem?_append_left (by rw [List.length_map]; exact hl), List.getElem?_map]
    exact h
  · rw [if_neg hj] at h; cases h

theorem spread_end {w0 w : World} {F0 : List Nat} {x y : Sp} {t e n g gO : Nat} {A : Own} (h1 : x.after (t + e) = y.go e) (h2 : x.read (t + e) = x.read t ++ (y.b.drop y.p).take e) (hb : y.b.length = 200) (he : t + e ≤ n ∧ y.p + e ≤ 200)
    (H : St w0 F0 w (lay ([A, .blk g 71 y.vs, .blk gO 5 ((x.read t ++ List.replicate (n - t) 0).map vb)].set 2 (.blk gO 5 (splice ((x.read t ++ List.replicate (n - t) 0).map vb) t (((y.b.drop y.p).take e).map vb)))))) :
    St w0 F0 (w.setCell ⟨g, 202, none⟩ (.int .i64 ((y.p : Int) + (e : Int)))) (lay [A, .blk g 71 (x.after (t + e)).vs, .blk gO 5 ((x.read (t + e) ++ List.replicate (n - (t + e)) 0).map vb)]) := by
  have hl : ((y.b.drop y.p).take e).length = e := by rw [List.length_take, List.length_drop, hb]; omega
  rw [splice_mid _ _ _ n t (Sp.read_length x t) (List.length_replicate ..) (by rw [hl]; omega), hl, ← h2, List.drop_replicate, show n - t - e = n - (t + e) by omega] at H
  have H2 := (H.store 1 rfl (o := 202) (u := .int .i64 ((y.p : Int) + (e : Int)))).upd_mk (by simp)
  unfold Sp.vs at H2
  rw [sp_put _ _ 2 _ hb rfl, show ((y.p : Int) + (e : Int)) = ((y.p + e : Nat) : Int) by rw [Int.natCast_add]] at H2
  rw [h1, show ((y.p : Int) + (e : Int)) = ((y.p + e : Nat) : Int) by rw [Int.natCast_add]]
  exact H2

set_option maxHeartbeats 4000000 in
theorem spRead_s (l : Value) (r : Option (List RunT)) (m : Nat) (b : Int) (g : Nat) (x0 : Sp) (n : Nat) (N : Int) (hN : N = n) (H : St w0 F0 w E) (i j k0 : Nat) (hij : i ≠ j) (hi : E i = some (led l r)) (hj : E j = some (.blk g 71 x0.vs)) (hk : E k0 = none) (hg : LW r m b) (hm : m ≤ 999999999999) (hb : b ≤ 4000000000000000000) (hx0 : x0.Ok) (hn : n ≤ 65536) :
    Calls Try.prog 9 #[lptr g, l, .int .i64 N] w fun e w' => ∃ v, e = .returned (.tuple #[v, .int .i64 0]) ∧ St w0 F0 w' (upd (upd (upd E i (led l (noteN r 3 200 (x0.shutN + (x0.shut.p + n - 1) / x0.r)))) j (.blk g 71 (x0.shut.after n).vs)) k0 (.row 5 1 v n ((x0.shut.read n).map vb))) := by
  subst hN
  obtain ⟨i0, hi0, hz0, hz1, hz2⟩ := info_parts u8_info
  obtain ⟨F, HF, -, -, hback⟩ := H.frame2 i j hij hi hj
  have HB := Lib.hid hback
  have HKK := Lib.hid hk
  have HIJ := Lib.hid hij
  have HI := Lib.hid hi
  have HJ := Lib.hid hj
  replace HF := HF.as2
  clear H hback hi hj hk hij
  obtain ⟨k1, k2, k3, k4⟩ := Sp.cells hx0.hb
  have h8 := hx0.r8
  have c0 := HF.cell 1 rfl k1
  have c3 := HF.cell 1 rfl k4
  clear k1 k2 k3 k4
  obtain ⟨x, c0', hxe, hce, hxok, hxs, hcl⟩ : ∃ (x : Sp) (c0' : Nat), Hid (x0.shut = x) ∧ Hid (x0.shutN = c0') ∧ Hid x.Ok ∧ Hid (x.s = true) ∧ c0' ≤ 1 := ⟨_, _, rfl, rfl, (Sp.shut_ok hx0).1, (Sp.shut_ok hx0).2.1, by unfold Sp.shutN; split <;> omega⟩
  have hrr : Hid (x.r = x0.r) := by unfold Hid; rw [← hxe.out]; exact (Sp.shut_ok hx0).2.2
  have hnn : decide ((n : Int) < 0) = false := by simp
  have hnn2 : decide ((n : Int) > 65536) = false := by simp; omega
  have HX0 := Lib.hid hx0
  clear hx0
  rcases hs : x0.s with _ | _
  all_goals rw [hs] at c3
  have hS := Lib.hid hs
  have e1 : Hid (x = x0.close) := by unfold Hid; rw [← hxe.out]; unfold Sp.shut; rw [if_neg (by rw [hs]; decide)]
  have e2 : Hid (c0' = 1) := by unfold Hid; rw [← hce.out]; unfold Sp.shutN; rw [if_neg (by rw [hs]; decide)]
  clear hs
  go_enter Try.func9, Try.ntmps9
  go_wp2_with fail
  refine (spNone_no g x0.r w c0 (by omega)).mono ?_
  rintro e w1 ⟨rfl, rfl⟩
  unfold lptr
  go_wp2_with fail
  refine (spClose_s l r m b g x0 HF 0 1 (by omega) rfl rfl hg hm hb HX0.out hS.out).mono ?_
  rintro e w2 ⟨rfl, H2⟩
  rw [upd_laid (by simp), upd_laid (by simp)] at H2
  replace H2 : St w F w2 (lay [led l (noteN r 3 200 c0'), .blk g 71 x.vs]) := by rw [e1.out, e2.out]; exact H2
  clear c0 c3 HF
  go_upto_region 7 with (fail)
  refine absorb_wp (E := lay [led l (noteN r 3 200 c0'), .blk g 71 x.vs]) H2 ?_
  clear H2 hnn hnn2
  intro w2 H2
  rotate_left
  have e1 : Hid (x = x0) := by unfold Hid; rw [← hxe.out]; unfold Sp.shut; rw [if_pos hs]
  have e2 : Hid (c0' = 0) := by unfold Hid; rw [← hce.out]; unfold Sp.shutN; rw [if_pos hs]
  clear hs
  go_enter Try.func9, Try.ntmps9
  go_wp2_with fail
  refine (spNone_no g x0.r w c0 (by omega)).mono ?_
  rintro e w1 ⟨rfl, rfl⟩
  unfold lptr
  replace HF : St w F w (lay [led l (noteN r 3 200 c0'), .blk g 71 x.vs]) := by rw [e1.out, e2.out, noteN_zero]; exact HF
  go_upto_region 7 with (fail)
  refine absorb_wp (E := lay [led l (noteN r 3 200 c0'), .blk g 71 x.vs]) HF ?_
  clear HF hnn hnn2 c0 c3
  intro w2 H2
  rotate_left
  all_goals
    have hmk1 : i0.bytes * n ≤ 281474976710656 := by rw [hz2]; omega
    have hmk2 : n ≤ maxLen := by simp only [maxLen]; omega
    obtain ⟨w3, hrun, ho3, hg3⟩ := run_make_full (P := Try.prog) w2 w2.heap.size 27 5 i0 (.int .u8 0) 1 Try.underlying27 hi0 hz0 hz1 .i64 .i64 n hmk1 hmk2 (Nat.le_refl _)
    go_wp2
    try (rw [hrun]; go_wp2)
    clear hrun
    have hb3 : Below w2.heap.size w2 w3 := (Below.refl _ _).grown hg3 (Nat.le_refl _) (fun _ h => by cases h)
    have H3 := (((H2.pushRow 2 rfl hb3 (made0 ho3)).push_mk rfl).rowFull 2 rfl).upd_mk (by simp)
    clear ho3 hg3 hb3 H2 e1 e2
    generalize w2.heap.size = gO at H3 ⊢
    go_loopw [9] (fun i wr => ∃ t c : Nat, t ≤ n ∧ i = .int .i64 t ∧ Hid (c * x.r + (x.after t).p = x.p + t ∧ (t = 0 → c = 0) ∧ (0 < t → 1 ≤ (x.after t).p)) ∧ St w F wr (lay [led l (noteN r 3 200 (c0' + c)), .blk g 71 (x.after t).vs, .blk gO 5 ((x.read t ++ List.replicate (n - t) 0).map vb)])) (fun i _ => n - (intOf i).toNat)
    case atStart => exact ⟨0, 0, Nat.zero_le _, rfl, ⟨by rw [Sp.after_zero]; omega, fun _ => rfl, fun h => absurd h (by omega)⟩, H3⟩
    case round =>
      clear H3
      obtain ⟨t, c, ht, rfl, HC, H⟩ := hrel
      by_cases hlt : t < n
      · have hz := Sp.after_ok hxok.out hxs.out t
        have HZ : Hid ((x.after t).Ok ∧ (x.after t).r = x.r ∧ (x.after t).s = true) := ⟨hz.1, hz.2.1, hz.2.2.1⟩
        have hcb : c ≤ 65800 := by
          have h1 := HC.out.1
          have h2 := hxok.out.pr
          have h3 := hxok.out.r192
          have h4 := hxok.out.r8
          have : c * 1 ≤ c * x.r := Nat.mul_le_mul_left c (by omega)
          omega
        generalize hzz : x.after t = z at H HC HZ
        have HZZ := Lib.hid hzz
        clear hzz hz
        obtain ⟨k1, k2, k3, k4⟩ := Sp.cells HZ.out.1.hb
        have b0 := H.cell 1 rfl k1
        have b2 := H.cell 1 rfl k3
        have hk1 : (t : Int) < n := by omega
        clear k1 k2 k3 k4
        by_cases he : z.p = z.r
        have he1 : ((z.p : Int) == (z.r : Int)) = true := by simp; omega
        have HY := Lib.hid (Sp.turn_yes he)
        have hzp := HZ.out.1.hb
        have HCC : Hid ((c + 1) * x.r + z.turn.p = x.p + t ∧ 1 = 1) := by
          refine ⟨?_, rfl⟩
          have h1 := HC.out.1
          rw [HY.out]
          show (c + 1) * x.r + 0 = x.p + t
          rw [Nat.add_mul, Nat.one_mul, ← h1, he, HZ.out.2.1, Nat.add_zero]
        clear he
        go_wp2
        go_quiet (fail)
        go_wp2_with fail
        refine (spPermute_s l _ (m + 1) (b + ((c0' + c : Nat) : Int)) g z (H.drewN nq) 0 1 (by omega) rfl rfl (hg.noteN 3 200 _) (by omega) (by omega) hzp).mono ?_
        rintro e w6 ⟨rfl, H6⟩
        rw [upd_laid (by simp), upd_laid (by simp), noteN_noteN] at H6
        go_upto_region 12 with (fail)
        obtain ⟨c', HCY, hcb', H7⟩ : ∃ c', Hid (c' * x.r + z.turn.p = x.p + t) ∧ c' ≤ 65801 ∧ St w F w6 (lay [led l (noteN r 3 200 (c0' + c')), .blk g 71 z.turn.vs, .blk gO 5 ((x.read t ++ List.replicate (n - t) 0).map vb)]) := ⟨c + 1, HCC.out.1, by omega, by rw [HY.out]; exact H6⟩
        refine absorb_wp H7 ?_
        clear H6 H7 H HCC he1
        intro w7 H
        rotate_left
        have he1 : ((z.p : Int) == (z.r : Int)) = false := by simp; omega
        have HY := Lib.hid (Sp.turn_no he)
        go_wp2
        go_quiet (fail)
        go_upto_region 12 with (fail)
        obtain ⟨c', HCY, hcb', H7⟩ : ∃ c', Hid (c' * x.r + z.turn.p = x.p + t) ∧ c' ≤ 65801 ∧ St w F (wr.drewN nq) (lay [led l (noteN r 3 200 (c0' + c')), .blk g 71 z.turn.vs, .blk gO 5 ((x.read t ++ List.replicate (n - t) 0).map vb)]) := ⟨c, by unfold Hid; rw [HY.out]; exact HC.out.1, by omega, by rw [HY.out]; exact H.drewN _⟩
        refine absorb_wp H7 ?_
        clear H7 H he1
        intro w7 H
        rotate_left
        all_goals
          clear HY HC b0 b2
          have hz1 := Sp.turn_lt HZ.out.1
          have hz2 := Sp.turn_r z
          have hze := HZZ.out
          have HAG : ∀ k, z.turn.p + (k + 1) ≤ z.turn.r → x.after (t + (k + 1)) = z.turn.go (k + 1) := by
            intro k hk
            have := Sp.after_go (x := x) t k
            rw [hze] at this
            exact this hk
          have HRM : ∀ k, z.turn.p + k ≤ z.turn.r → z.turn.r ≤ 192 → z.turn.b.length = 200 → x.read (t + k) = x.read t ++ (z.turn.b.drop z.turn.p).take k := by
            intro k
            have := Sp.read_more (x := x) t k
            rw [hze] at this
            exact this
          rw [hz2.1] at HAG HRM
          have hzr := HZ.out.2.1
          have h192 := HZ.out.1.r192
          have h88 := HZ.out.1.r8
          have hr1 : z.turn.r = z.r := hz2.1
          rw [hzr] at HAG HRM hr1 h192 h88
          obtain ⟨hp1, hb2⟩ := hz1
          rw [hzr] at hp1
          generalize z.turn = y at H HCY HAG HRM hp1 hb2 hr1
          clear hz2 hze hzr HZ HZZ
          obtain ⟨D, hK⟩ : ∃ D, min (n - t) (x.r - y.p) = D + 1 := ⟨min (n - t) (x.r - y.p) - 1, by omega⟩
          have hAG := HAG D (by omega)
          have hRM := HRM (D + 1) (by omega) (by omega) hb2
          obtain ⟨e, hE⟩ : ∃ e, D + 1 = e := ⟨_, rfl⟩
          rw [hE] at hAG hRM hK
          have he1 : 1 ≤ e := by omega
          clear HAG HRM hE
          clear D
          have HAG1 := Lib.hid hAG
          have HRM1 := Lib.hid hRM
          obtain ⟨k1, -, k3, -⟩ := Sp.cells hb2
          rw [hr1] at k1
          have HR1 := Lib.hid hr1
          have HK := Lib.hid hK
          have HB2 := Lib.hid hb2
          have hK1 : e ≤ n - t := by omega
          have hK2 : y.p + e ≤ x.r := by omega
          clear hAG hRM hr1 hK hb2
          have hnt : ¬ n = t := by omega
          have hpp : y.p ≤ 200 := by omega
          have hpr : (y.p : Int) ≤ x.r := by omega
          have hrx : (x.r : Int) ≤ 200 := by omega
          replace H := H.drew
          refine wp_region_held_drew (S := fun w' : World => ∃ Z, St w F w' (lay [led l (noteN r 3 200 (c0' + c')), .blk g 71 y.vs, .blk gO 5 Z])) (by kernel_rfl) ?_ (fun hHeld => ?_)
          · exact ⟨_, H⟩
          refine takeV 0 rfl (by intro w h; clear h; go_simp; try with_reducible rfl) (by kernel_rfl) (by kernel_rfl) (by kernel_rfl) (by exact fun _ _ _ h => h) (by rfl) (by assumption) ?_
          try simp only [Act.put, List.setIfInBounds_toArray, List.set_cons_zero, List.set_cons_succ]
          refine takeV 1 rfl (by intro w h; clear h; go_simp; try with_reducible rfl) (by kernel_rfl) (by kernel_rfl) (by kernel_rfl) (by exact fun _ _ _ h => h) (by rfl) (by assumption) ?_
          try simp only [Act.put, List.setIfInBounds_toArray, List.set_cons_zero, List.set_cons_succ]
          refine takeV 2 rfl (by intro w h; clear h; go_simp; try with_reducible rfl) (by kernel_rfl) (by kernel_rfl) (by kernel_rfl) (by exact fun _ _ _ h => h) (by rfl) (by assumption) ?_
          try simp only [Act.put, List.setIfInBounds_toArray, List.set_cons_zero, List.set_cons_succ]
          refine takeV 3 rfl (by intro w h; clear h; go_simp; try with_reducible rfl) (by kernel_rfl) (by kernel_rfl) (by kernel_rfl) (by exact fun _ _ _ h => h) (by rfl) (by assumption) ?_
          try simp only [Act.put, List.setIfInBounds_toArray, List.set_cons_zero, List.set_cons_succ]
          refine takeV 4 rfl (by intro w h; clear h; go_simp; try with_reducible rfl) (by kernel_rfl) (by kernel_rfl) (by kernel_rfl) (by exact fun _ _ _ h => h) (by rfl) (by assumption) ?_
          try simp only [Act.put, List.setIfInBounds_toArray, List.set_cons_zero, List.set_cons_succ]
          refine takeV 5 rfl (by intro w h; clear h; go_simp; try with_reducible rfl) (by kernel_rfl) (by kernel_rfl) (by kernel_rfl) (by exact fun _ _ _ h => h) (by rfl) (by assumption) ?_
          try simp only [Act.put, List.setIfInBounds_toArray, List.set_cons_zero, List.set_cons_succ]
          refine takeV 6 rfl (by intro w h; clear h; go_simp; try with_reducible rfl) (by kernel_rfl) (by kernel_rfl) (by kernel_rfl) (by exact fun _ _ _ h => h) (by rfl) (by assumption) ?_
          try simp only [Act.put, List.setIfInBounds_toArray, List.set_cons_zero, List.set_cons_succ]
          refine takeV 7 rfl (by intro w h; clear h; go_simp; try with_reducible rfl) (by kernel_rfl) (by kernel_rfl) (by kernel_rfl) (by exact fun _ _ _ h => h) (by rfl) (by assumption) ?_
          try simp only [Act.put, List.setIfInBounds_toArray, List.set_cons_zero, List.set_cons_succ]
          refine takeV 8 rfl (by intro w h; clear h; go_simp; try with_reducible rfl) (by kernel_rfl) (by kernel_rfl) (by kernel_rfl) (by exact fun _ _ _ h => h) (by rfl) (by assumption) ?_
          try simp only [Act.put, List.setIfInBounds_toArray, List.set_cons_zero, List.set_cons_succ]
          refine takeV 9 rfl (by intro w h; have hc := (h.elim fun Z h => h.cell 1 rfl k3); clear h; go_simp; try with_reducible rfl) (by kernel_rfl) (by kernel_rfl) (by kernel_rfl) (by exact fun _ _ _ h => h) (by rfl) (by assumption) ?_
          try simp only [Act.put, List.setIfInBounds_toArray, List.set_cons_zero, List.set_cons_succ]
          refine takeV 10 rfl (by intro w h; clear h; go_simp; try with_reducible rfl) (by kernel_rfl) (by kernel_rfl) (by kernel_rfl) (by exact fun _ _ _ h => h) (by rfl) (by assumption) ?_
          try simp only [Act.put, List.setIfInBounds_toArray, List.set_cons_zero, List.set_cons_succ]
          refine takeV 11 rfl (by intro w h; clear h; go_simp; try with_reducible rfl) (by kernel_rfl) (by kernel_rfl) (by kernel_rfl) (by exact fun _ _ _ h => h) (by rfl) (by assumption) ?_
          try simp only [Act.put, List.setIfInBounds_toArray, List.set_cons_zero, List.set_cons_succ]
          refine takeV 12 rfl (by intro w h; clear h; go_simp; try with_reducible rfl) (by kernel_rfl) (by kernel_rfl) (by kernel_rfl) (by exact fun _ _ _ h => h) (by rfl) (by assumption) ?_
          try simp only [Act.put, List.setIfInBounds_toArray, List.set_cons_zero, List.set_cons_succ]
          refine takeV 13 rfl (by intro w h; have hc := (h.elim fun Z h => h.cell 1 rfl k1); clear h; go_simp; try with_reducible rfl) (by kernel_rfl) (by kernel_rfl) (by kernel_rfl) (by exact fun _ _ _ h => h) (by rfl) (by assumption) ?_
          try simp only [Act.put, List.setIfInBounds_toArray, List.set_cons_zero, List.set_cons_succ]
          refine takeV 14 rfl (by intro w h; clear h; go_simp; try with_reducible rfl) (by kernel_rfl) (by kernel_rfl) (by kernel_rfl) (by exact fun _ _ _ h => h) (by rfl) (by assumption) ?_
          try simp only [Act.put, List.setIfInBounds_toArray, List.set_cons_zero, List.set_cons_succ]
          refine take_call 15 rfl (by kernel_rfl) (fun K hK => ?_)
          refine step_copy_st rfl (.tmp 48) (.tmp 60) _ _ rfl 5 Try.underlying27 u8_size _ _ _ _ _ _ (by rfl) (by rfl) H 2 gO t _ _ (by rfl) (((y.b.drop y.p).take e).map vb) ?_ ?_ ?_ (vb_one _) ?_
          · rw [List.length_map, List.length_take, List.length_drop, HB2.out]; have := HK.out; show min e (200 - y.p) = min (x.r - y.p) (n - t); omega
          · exact fun _ => ⟨rfl, ⟨g, y.p, none⟩, by rw [if_neg (by omega)], fun j v hv => by rw [Addr.add_mid]; exact H.cell 1 rfl (chunk_at hv)⟩
          · rw [List.length_map, List.length_map, List.length_append, Sp.read_length, List.length_replicate, List.length_take, List.length_drop, HB2.out]; omega
          intro w5 H5
          replace H5 := H5.upd_mk (by simp)
          refine hK.out _ _ ?_ (fun hHeld => ?_)
          · exact ⟨_, H5⟩
          clear hK K
          try simp only [Act.put, List.setIfInBounds_toArray, List.set_cons_zero, List.set_cons_succ]
          rw [show (((y.b.drop y.p).take e).map vb).length = e by rw [List.length_map, List.length_take, List.length_drop, HB2.out]; omega]
          refine takeV 16 rfl (by intro w h; clear h; go_simp; try with_reducible rfl) (by kernel_rfl) (by kernel_rfl) (by kernel_rfl) (by exact fun _ _ _ h => h) (by rfl) (by assumption) ?_
          try simp only [Act.put, List.setIfInBounds_toArray, List.set_cons_zero, List.set_cons_succ]
          refine wpAnyH_done (by kernel_rfl) ?_ _
          have c2 := H5.cell 1 rfl k3
          have f2 := H5.free 1 rfl 202
          clear hHeld
          go_wp2
          go_roundw
          case rel => exact ⟨t + e, c', by omega, by go_num, ⟨by rw [HAG1.out]; show c' * x.r + (y.p + e) = _; have := HCY.out; omega, fun h => absurd h (by omega), fun _ => by rw [HAG1.out]; show 1 ≤ y.p + e; omega⟩, spread_end HAG1.out HRM1.out HB2.out (by omega) H5⟩
          case measure => simp [intOf]; omega
      · obtain rfl : n = t := by omega
        have hcc : Hid (c = (x.p + n - 1) / x.r) := count_end HC.out.1 (by have h := Sp.after_ok hxok.out hxs.out n; rw [← h.2.1]; exact h.1.pr) HC.out.2.1 HC.out.2.2 (by have := hxok.out.r8; omega) hxok.out.pr
        rw [Nat.sub_self, List.replicate_zero, List.append_nil] at H
        have H8 := (H.blkRow 2 rfl (n := n) (by rw [List.length_map, Sp.read_length]) (by simp only [maxLen]; omega)).upd_mk (by simp)
        rw [hcc.out, hrr.out, ← hxe.out, ← hce.out] at H8
        clear H HC
        go_wp2
        go_ret2
        exact ⟨_, rfl, St.two_more HIJ.out HI.out HJ.out HKK.out HB.out H8⟩

end

end Go.Proofs.Ytgjlclihgpahbaa

namespace Go.Proofs.Ytgjlclihgpahbaa
open Go.RowKit
set_option linter.unusedVariables false
set_option maxRecDepth 100000

attribute [local irreducible] permB kBytes kPerm kFrom

theorem zb_map : zb 200 = (List.replicate 200 (0 : UInt8)).map vb := by unfold zb; rw [List.map_replicate]; rfl

theorem zb200 : (List.replicate 200 (0 : UInt8)).length = 200 := List.length_replicate ..

theorem zbmap_len : ((List.replicate 200 (0 : UInt8)).map vb).length = 200 := by rw [List.length_map, zb200]

theorem step_append_grows {P : Program} (w : World) {ops : Array Oper} {o : Oper} {a : Act} {K : Act → World → Prop} {Q : Exit → Act → World → Prop} {X : Prop} (hg : o.guard = none) (s x : Operand) (t : TypeId) (hop : o.op = Op.call { callee := Callee.builtin Builtin.append, args := #[s, x], argTypes := #[t, t] })
    (e : TypeId) (i : TypeInfo) (z : Value) (size bytes : Nat) (h1 : P.underlying t = some (.slice e)) (h2 : P.info? e = some i) (h3 : i.zero = some z) (h4 : i.size = size) (h5 : i.bytes = bytes) (h6 : z.cells.size = size) (h7 : 0 < size)
    (b : Addr) (n cap : Nat) (olds : List Value) (hs : a.eval s = .slice (some b) n cap) (hlo : olds.length = n * size) (holds : ∀ j u, olds[j]? = some u → w.cell? (b.add j) = some u)
    (ad : Addr) (m c : Nat) (news : List Value) (hx : a.eval x = .slice (some ad) m c) (hn : news.length = m * size) (hc : ∀ j u, news[j]? = some u → w.cell? (ad.add j) = some u)
    (hfull : cap < n + m) (b1 : n + m ≤ maxLen) (b2 : (n + m) * bytes ≤ 140737488355328)
    (hK : ∀ v' w', w'.ownsRow w.heap.size e size v' (n + m) (olds ++ news) → w.grownBy w' none → K (a.put o.dst v') w') : if Region.wanted o (yielded ops a.tmps) = true then Oper.wp P o a w K Q else X := by
  rw [if_pos (by simp [Region.wanted, hg])]
  obtain ⟨v', w', hrun, r1, r2⟩ := run_append_arg_grows (P := P) w t o.type e i z size bytes h1 h2 h3 h4 h5 h6 h7 b n cap olds hlo holds ad m c news hn hc hfull b1 b2
  unfold Oper.wp
  simp [execOp, hop, resolve, invoke, builtin, hs, hx, hrun, Result.andThen]
  exact hK v' w' r1 r2

/-- a sponge's form -/
def Sp.form (x : Sp) : List UInt8 := x.b ++ [0, UInt8.ofNat x.p, if x.s = true then 1 else 0]

theorem Sp.form_length {x : Sp} (h : x.b.length = 200) : x.form.length = 203 := by unfold Sp.form; rw [List.length_append, h]; rfl

def spZero : List Value := (List.replicate 200 (0 : UInt8)).map vb ++ [.int .i64 0, .int .u8 0, .int .i64 0, .bool false]

def spZeroR : List Value := (List.replicate 200 (0 : UInt8)).map vb ++ [.int .i64 0, .int .u8 0, .int .i64 0, .bool false, .bool true]

theorem vs_one (x : Sp) : ∀ u ∈ x.vs, u.oneCell' = true := by
  intro u hu
  unfold Sp.vs at hu
  rcases List.mem_append.1 hu with h | h
  · exact vb_one _ u h
  · simp at h; rcases h with rfl | rfl | rfl | rfl <;> rfl

theorem vsR_one (x : Sp) : ∀ u ∈ x.vsR, u.oneCell' = true := by
  intro u hu
  unfold Sp.vsR at hu
  rcases List.mem_append.1 hu with h | h
  · exact vb_one _ u h
  · simp at h; rcases h with rfl | rfl | rfl | rfl | rfl <;> rfl

theorem below_front {xs : List Value} {n : Nat} (j : Nat) (v : Value) (h : (xs.take n)[j]? = some v) : xs[j]? = some v := by
  rw [List.getElem?_take] at h
  split at h
  · exact h
  · cases h

theorem zero_sp (w : World) : (zeroValue 71).run Try.prog w = .ok (.agg (zb 200 ++ [Value.int .i64 0, Value.int .u8 0, Value.int .i64 0, Value.bool false]).toArray) w := by kernel_rfl

theorem spZero_eq : (zb 200 ++ [Value.int .i64 0, Value.int .u8 0, Value.int .i64 0, Value.bool false]) = spZero := by rw [zb_map]; rfl

theorem spZero_one : ∀ u ∈ (zb 200 ++ [Value.int .i64 0, Value.int .u8 0, Value.int .i64 0, Value.bool false]), u.oneCell' = true := by
  rw [spZero_eq]
  intro u hu
  unfold spZero at hu
  rcases List.mem_append.1 hu with h | h
  · exact vb_one _ u h
  · simp at h; rcases h with rfl | rfl | rfl | rfl <;> rfl

theorem sp_size : (Try.prog.info? 71).map (·.size) = some 204 := by kernel_rfl

section
variable {w0 w : World} {F0 : List Nat} {E : Env}

theorem spNew_s (r : Int) (f : UInt8) (H : St w0 F0 w E) (k : Nat) (hk : E k = none) (h1 : 8 ≤ r) (h2 : r ≤ 192) (h3 : r % 8 = 0) :
    Calls Try.prog 7 #[.int .i64 r, .int .u8 (f.toNat : Int)] w fun e w' => ∃ g, e = .returned (.tuple #[lptr g, .int .i64 0]) ∧ St w0 F0 w' (upd E k (.blk g 71 (Sp.new r.toNat f).vs)) := by
  have hz0 := zero_sp
  have d1 : decide (r < 8) = false := by simp; omega
  have d2 : decide (r > 192) = false := by simp; omega
  have d3 : (r % 8 != 0) = false := by simp; omega
  have hr0 : 0 ≤ r := by omega
  have HR : Hid (((r.toNat : Nat) : Int) = r) := by unfold Hid; omega
  go_enter Try.func7, Try.ntmps7
  go_wp2
  go_ret2
  have e : ((zb 200 ++ [Value.int .i64 0, Value.int .u8 0, Value.int .i64 0, Value.bool false]).set 200 (Value.int .i64 r)).set 201 (Value.int .u8 (f.toNat : Int)) = (Sp.new r.toNat f).vs := by
    rw [zb_map, sp_put _ _ 0 _ zb200 rfl, sp_put _ _ 1 _ zb200 rfl]
    unfold Sp.new Sp.vs
    simp only [HR.out]
    rfl
  refine ⟨_, rfl, ?_⟩
  have H2 := H.alloc k hk (((zb 200 ++ [Value.int .i64 0, Value.int .u8 0, Value.int .i64 0, Value.bool false]).set 200 (Value.int .i64 r)).set 201 (Value.int .u8 (f.toNat : Int))).toArray 71
  rw [List.toList_toArray, e] at H2
  rw [← e]
  rw [← e] at H2
  exact H2

theorem spNew_no (r : Int) (f : UInt8) (h : r < 8 ∨ 192 < r ∨ r % 8 ≠ 0) :
    Calls Try.prog 7 #[.int .i64 r, .int .u8 (f.toNat : Int)] w fun e w' => e = .returned (.tuple #[.pointer none, .int .i64 2]) ∧ w = w' := by
  by_cases h1 : r < 8
  · have d1 : decide (r < 8) = true := by simp; omega
    clear h h1
    go_enter Try.func7, Try.ntmps7
    go_wp2
    go_ret2
    exact ⟨rfl, rfl⟩
  · by_cases h2 : 192 < r
    · have d1 : decide (r < 8) = false := by simp; omega
      have d2 : decide (r > 192) = true := by simp; omega
      clear h h1 h2
      go_enter Try.func7, Try.ntmps7
      go_wp2
      go_ret2
      exact ⟨rfl, rfl⟩
    · have d1 : decide (r < 8) = false := by simp; omega
      have d2 : decide (r > 192) = false := by simp; omega
      have d3 : (r % 8 != 0) = true := by simp; omega
      have hr0 : 0 ≤ r := by omega
      clear h h1 h2
      go_enter Try.func7, Try.ntmps7
      go_wp2
      go_ret2
      exact ⟨rfl, rfl⟩

set_option maxHeartbeats 1000000 in
theorem spClone_s (g : Nat) (x : Sp) (H : St w0 F0 w E) (j k : Nat) (hj : E j = some (.blk g 71 x.vs)) (hk : E k = none) (hx : x.Ok) :
    Calls Try.prog 43 #[lptr g] w fun e w' => ∃ g', e = .returned (.tuple #[lptr g', .int .i64 0]) ∧ St w0 F0 w' (upd E k (.blk g' 71 x.vs)) := by
  obtain ⟨k1, k2, k3, k4⟩ := Sp.cells hx.hb
  have h8 := hx.r8
  have c0 := H.cell j hj k1
  have HL := Lib.hid (Sp.vs_length hx.hb)
  clear k1 k2 k3 k4
  have hz0 := zero_sp
  have HH := Lib.hid H
  have HJ := Lib.hid hj
  have HK := Lib.hid hk
  clear hj hk hx
  go_enter Try.func43, Try.ntmps43
  go_wp2_with fail
  refine (spNone_no g x.r w c0 (by omega)).mono ?_
  rintro e w1 ⟨rfl, rfl⟩
  unfold lptr
  go_wp2_with (first | (refine wpList_load_row rfl 71 (.tmp 8) rfl g rfl _ _ _ _ (HH.out.blk j HJ.out) Try.underlying71 rfl (by rw [sp_size]; simp [HL.out]) ?_) | (refine wpList_store_mid rfl 71 (.tmp 4) (.tmp 9) rfl w.heap.size 0 x.vs.toArray rfl rfl (there_new _ _ _ _ (by simp [HL.out, zb_length])) (by rw [sp_size]; simp [HL.out]) (all_oneCell_toArray (vs_one x)) ?_; refine absorb_list (HH.out.alloc k HK.out (zb 200 ++ [Value.int .i64 0, Value.int .u8 0, Value.int .i64 0, Value.bool false]).toArray 71 |>.storeAll k upd_same (vs := x.vs) (by simp [HL.out, zb_length])) ?_; rw [upd_upd]; intro w4 H4))
  go_ret2
  exact ⟨_, rfl, H4⟩

set_option maxHeartbeats 1000000 in
theorem spWipe_s (l : Value) (r : Option (List RunT)) (m : Nat) (b : Int) (g : Nat) (x : Sp) (H : St w0 F0 w E) (i j : Nat) (hij : i ≠ j) (hi : E i = some (led l r)) (hj : E j = some (.blk g 71 x.vs)) (hg : LW r m b) (hm : m ≤ 999999999999) (hb : b ≤ 4000000000000000000) (hx : x.Ok) :
    Calls Try.prog 30 #[lptr g, l] w fun e w' => e = .returned (.int .i64 0) ∧ St w0 F0 w' (upd (upd E i (led l (noteN r 8 203 1))) j (.blk g 71 spZero)) := by
  obtain ⟨k1, k2, k3, k4⟩ := Sp.cells hx.hb
  have h8 := hx.r8
  have c0 := H.cell j hj k1
  have HL := Lib.hid (Sp.vs_length hx.hb)
  clear k1 k2 k3 k4
  have hz0 := zero_sp
  have HI := Lib.hid hi
  have HJ := Lib.hid hj
  have HG := Lib.hid hg
  have HIJ := Lib.hid hij
  clear hi hj hg hij hx
  go_enter Try.func30, Try.ntmps30
  go_wp2_with fail
  refine (spNone_no g x.r w c0 (by omega)).mono ?_
  rintro e w1 ⟨rfl, rfl⟩
  unfold lptr
  go_wp2_with fail
  refine (ledger_note_w m b 8 203 H i HI.out HG.out (by omega) (by omega)).mono ?_
  rintro e w3 ⟨rfl, H3⟩
  have HJ2 : Hid (upd E i (led l (noteN r 8 203 1)) j = some (.blk g 71 x.vs)) := by unfold Hid; rw [show upd E i (led l (noteN r 8 203 1)) j = E j from if_neg (Ne.symm HIJ.out)]; exact HJ.out
  go_wp2_with (refine wpList_store_mid rfl 71 (.tmp 12) (.tmp 11) rfl g 0 ((zb 200 ++ [Value.int .i64 0, Value.int .u8 0, Value.int .i64 0, Value.bool false])).toArray rfl rfl (by have h := H3.there j HJ2.out; rw [HL.out] at h; simpa [zb_length] using h) (by rw [sp_size]; simp [zb_length]) (all_oneCell_toArray spZero_one) ?_; refine absorb_list (H3.storeAll j HJ2.out (vs := (zb 200 ++ [Value.int .i64 0, Value.int .u8 0, Value.int .i64 0, Value.bool false])) (by simp [HL.out, zb_length])) ?_; rw [spZero_eq]; intro w4 H4)
  go_ret
  exact ⟨rfl, H4⟩

set_option maxHeartbeats 1000000 in
theorem spRate_s (g : Nat) (x : Sp) (H : St w0 F0 w E) (j : Nat) (hj : E j = some (.blk g 71 x.vs)) (hx : x.Ok) :
    Calls Try.prog 15 #[lptr g] w fun e w' => e = .returned (.int .i64 x.r) ∧ w = w' := by
  obtain ⟨k1, k2, k3, k4⟩ := Sp.cells hx.hb
  have h8 := hx.r8
  have c0 := H.cell j hj k1
  clear k1 k2 k3 k4 hx hj H
  go_enter Try.func15, Try.ntmps15
  unfold lptr
  go_wp2
  go_ret
  exact ⟨rfl, rfl⟩

theorem spShut_s (g : Nat) (x : Sp) (H : St w0 F0 w E) (j : Nat) (hj : E j = some (.blk g 71 x.vs)) (hx : x.Ok) :
    Calls Try.prog 12 #[lptr g] w fun e w' => e = .returned (.bool x.s) ∧ w = w' := by
  obtain ⟨k1, k2, k3, k4⟩ := Sp.cells hx.hb
  have h8 := hx.r8
  have c0 := H.cell j hj k1
  have c3 := H.cell j hj k4
  clear k1 k2 k3 k4 hx hj H
  go_enter Try.func12, Try.ntmps12
  unfold lptr
  go_wp2
  go_ret
  exact ⟨rfl, rfl⟩

end

end Go.Proofs.Ytgjlclihgpahbaa

namespace Go.Proofs.Ytgjlclihgpahbaa
open Go.RowKit
set_option linter.unusedVariables false
set_option maxRecDepth 100000

/-- no sponge: nil, or one whose memory is noughts -/
def SpNo (w : World) (s : Value) : Prop := s = .pointer none ∨ ∃ g, s = lptr g ∧ w.cell? ⟨g, 200, none⟩ = some (.int .i64 0) ∧ w.cell? ⟨g, 203, none⟩ = some (.bool false)

section
variable {w : World}

theorem spRead_none (l : Value) (n : Int) (s : Value) (h : SpNo w s) : Calls Try.prog 9 #[s, l, .int .i64 n] w fun e w' => e = .returned (.tuple #[.slice none 0 0, .int .i64 1]) ∧ w = w' := by
  rcases h with rfl | ⟨g, rfl, c0, c3⟩
  · go_enter Try.func9, Try.ntmps9
    go_wp2_with fail
    refine (spNone_nil w).mono ?_
    rintro e w1 ⟨rfl, rfl⟩
    go_wp2
    go_ret2
    exact ⟨rfl, rfl⟩
  · unfold lptr
    go_enter Try.func9, Try.ntmps9
    go_wp2_with fail
    refine (spNone_yes g w c0).mono ?_
    rintro e w1 ⟨rfl, rfl⟩
    go_wp2
    go_ret2
    exact ⟨rfl, rfl⟩

theorem spClone_none  (s : Value) (h : SpNo w s) : Calls Try.prog 43 #[s] w fun e w' => e = .returned (.tuple #[.pointer none, .int .i64 1]) ∧ w = w' := by
  rcases h with rfl | ⟨g, rfl, c0, c3⟩
  · go_enter Try.func43, Try.ntmps43
    go_wp2_with fail
    refine (spNone_nil w).mono ?_
    rintro e w1 ⟨rfl, rfl⟩
    go_wp2
    go_ret2
    exact ⟨rfl, rfl⟩
  · unfold lptr
    go_enter Try.func43, Try.ntmps43
    go_wp2_with fail
    refine (spNone_yes g w c0).mono ?_
    rintro e w1 ⟨rfl, rfl⟩
    go_wp2
    go_ret2
    exact ⟨rfl, rfl⟩

theorem spWrite_none (l v : Value) (s : Value) (h : SpNo w s) : Calls Try.prog 14 #[s, l, v] w fun e w' => e = .returned (.int .i64 1) ∧ w = w' := by
  rcases h with rfl | ⟨g, rfl, c0, c3⟩
  · go_enter Try.func14, Try.ntmps14
    go_wp2_with fail
    refine (spNone_nil w).mono ?_
    rintro e w1 ⟨rfl, rfl⟩
    go_wp2
    go_ret
    exact ⟨rfl, rfl⟩
  · unfold lptr
    go_enter Try.func14, Try.ntmps14
    go_wp2_with fail
    refine (spNone_yes g w c0).mono ?_
    rintro e w1 ⟨rfl, rfl⟩
    go_wp2
    go_ret
    exact ⟨rfl, rfl⟩

theorem spClose_none (l : Value) (s : Value) (h : SpNo w s) : Calls Try.prog 8 #[s, l] w fun e w' => e = .returned (.int .i64 1) ∧ w = w' := by
  rcases h with rfl | ⟨g, rfl, c0, c3⟩
  · go_enter Try.func8, Try.ntmps8
    go_wp2_with fail
    refine (spNone_nil w).mono ?_
    rintro e w1 ⟨rfl, rfl⟩
    go_wp2
    go_ret
    exact ⟨rfl, rfl⟩
  · unfold lptr
    go_enter Try.func8, Try.ntmps8
    go_wp2_with fail
    refine (spNone_yes g w c0).mono ?_
    rintro e w1 ⟨rfl, rfl⟩
    go_wp2
    go_ret
    exact ⟨rfl, rfl⟩

theorem spWipe_none (l : Value) (s : Value) (h : SpNo w s) : Calls Try.prog 30 #[s, l] w fun e w' => e = .returned (.int .i64 1) ∧ w = w' := by
  rcases h with rfl | ⟨g, rfl, c0, c3⟩
  · go_enter Try.func30, Try.ntmps30
    go_wp2_with fail
    refine (spNone_nil w).mono ?_
    rintro e w1 ⟨rfl, rfl⟩
    go_wp2
    go_ret
    exact ⟨rfl, rfl⟩
  · unfold lptr
    go_enter Try.func30, Try.ntmps30
    go_wp2_with fail
    refine (spNone_yes g w c0).mono ?_
    rintro e w1 ⟨rfl, rfl⟩
    go_wp2
    go_ret
    exact ⟨rfl, rfl⟩

theorem spForm_none  (s : Value) (h : SpNo w s) : Calls Try.prog 22 #[s] w fun e w' => e = .returned (.slice none 0 0) ∧ w = w' := by
  rcases h with rfl | ⟨g, rfl, c0, c3⟩
  · go_enter Try.func22, Try.ntmps22
    go_wp2_with fail
    refine (spNone_nil w).mono ?_
    rintro e w1 ⟨rfl, rfl⟩
    go_wp2
    go_ret
    exact ⟨rfl, rfl⟩
  · unfold lptr
    go_enter Try.func22, Try.ntmps22
    go_wp2_with fail
    refine (spNone_yes g w c0).mono ?_
    rintro e w1 ⟨rfl, rfl⟩
    go_wp2
    go_ret
    exact ⟨rfl, rfl⟩

theorem spRate_none  (s : Value) (h : SpNo w s) : Calls Try.prog 15 #[s] w fun e w' => e = .returned (.int .i64 0) ∧ w = w' := by
  rcases h with rfl | ⟨g, rfl, c0, c3⟩
  · go_enter Try.func15, Try.ntmps15
    go_wp2
    go_ret
    exact ⟨rfl, rfl⟩
  · unfold lptr
    go_enter Try.func15, Try.ntmps15
    go_wp2
    go_ret
    exact ⟨rfl, rfl⟩

theorem spShut_none  (s : Value) (h : SpNo w s) : Calls Try.prog 12 #[s] w fun e w' => e = .returned (.bool false) ∧ w = w' := by
  rcases h with rfl | ⟨g, rfl, c0, c3⟩
  · go_enter Try.func12, Try.ntmps12
    go_wp2
    go_ret
    exact ⟨rfl, rfl⟩
  · unfold lptr
    go_enter Try.func12, Try.ntmps12
    go_wp2
    go_ret
    exact ⟨rfl, rfl⟩

end

end Go.Proofs.Ytgjlclihgpahbaa

namespace Go.Proofs.Ytgjlclihgpahbaa
open Go.RowKit
set_option linter.unusedVariables false

theorem pick_any (x : Int) (N : Nat) (w : World) (h1 : -9223372036854775808 ≤ x) (h2 : x ≤ 9223372036854775807) (hN1 : 1 ≤ N) (hN : N ≤ 1099511627776) {b : Int} (hb : b = (N : Int)) :
    Calls Try.prog 20 #[.int .i64 x, .int .i64 b] w fun e w' => (∃ n : Nat, n < N ∧ (n : Int) = x % (N : Int) ∧ e = .returned (.int .i64 (n : Int))) ∧ w = w' := by
  subst hb
  have h4 := Int.emod_nonneg x (show (N : Int) ≠ 0 by omega)
  have h5 := Int.emod_lt_of_pos x (show (0 : Int) < N by omega)
  have hr : x.tmod N = x % N ∨ x.tmod N = x % N - N := by
    rw [Int.tmod_eq_emod (a := x) (b := (N : Int))]
    split
    · left; simp
    · right; simp
  generalize x % (N : Int) = y at *
  obtain ⟨r, hr'⟩ : ∃ r, x.tmod N = r := ⟨_, rfl⟩
  rw [hr'] at hr
  have HM : Hid (y = if r < 0 then r + N else r) := by unfold Hid; split <;> omega
  have hlt : r < N := by omega
  have hgt : -(N : Int) ≤ r := by omega
  clear hr h4 h5
  by_cases hneg : r < 0
  · have HY : Hid (y = r + N) := by have h := HM.out; rw [if_pos hneg] at h; exact h
    clear HM
    go_enter Try.func20, Try.ntmps20
    go_wp2
    go_ret
    exact ⟨⟨(r + N).toNat, by omega, by rw [HY.out]; omega, by go_num⟩, rfl⟩
  · have HY : Hid (y = r) := by have h := HM.out; rw [if_neg hneg] at h; exact h
    clear HM
    go_enter Try.func20, Try.ntmps20
    go_wp2
    go_ret
    exact ⟨⟨r.toNat, by omega, by rw [HY.out]; omega, by go_num⟩, rfl⟩
end Go.Proofs.Ytgjlclihgpahbaa

namespace Go.Proofs.Ytgjlclihgpahbaa
open Go.RowKit
set_option linter.unusedVariables false

def ledRO (g : Nat) (rs : List RunT) : Own := .ex fun v => .sep (.blk g 79 [v]) (.row 43 3 v rs.length (runsV rs))

theorem ledR_close {w0 w : World} {F0 : List Nat} {E : Env} {g n : Nat} {v : Value} {xs : List Value} (rs : List RunT) (H : St w0 F0 w E) (h0 : E 0 = some (.blk g 79 [v])) (h1 : E 1 = some (.row 43 3 v n xs)) (hn : n = rs.length) (hx : xs = runsV rs) : St w0 F0 w (one (ledRO g rs)) := by
  subst hn hx
  refine ((H.join 0 1 (by omega) h0 h1).shutEx (A := fun v => .sep (.blk g 79 [v]) (.row 43 3 v rs.length (runsV rs))) v 0 (by simp [upd])).sub fun k A hA => ?_
  by_cases hk : k = 0
  · subst hk; simp only [one, upd, if_true] at hA ⊢; exact hA
  · simp [one, upd, hk, Env.nil] at hA

set_option maxHeartbeats 1000000 in
theorem refNoteTimes_nil {F : List Nat} {w : World} (g : Nat) (k s n : Int) (HF : St w F w (one (ledRO g []))) (hn : 1 ≤ n) (hb : n ≤ 4611686018427387904) :
    Calls Try.prog 66 #[lptr g, .agg #[.int .u8 k, .int .i64 s], .int .i64 n] w fun e w' => e = .returned (.tuple #[]) ∧ St w F w' (one (ledRO g [(k, s, n)])) := by
  obtain ⟨i0, hi0, hz0, hz1, hz2⟩ := info_parts run_info
  obtain ⟨v, H1⟩ := HF.openEx 0 rfl
  have H2 := H1.part 0 1 (by omega) rfl rfl
  clear HF H1
  obtain ⟨A, c, rfl, hc, -⟩ := row_shape (H2.row 1 rfl)
  have c0 := H2.cell 0 rfl (o := 0) rfl
  have f0 := H2.free 0 rfl 0
  have hg := H2.lt 0 rfl
  have hn1 : ¬ n < 1 := by omega
  unfold lptr
  go_enter Try.func66, Try.ntmps66
  go_wp2
  go_quiet (fail)
  go_wp2
  have H3 := (H2.allocAt 2 rfl w.heap.size rfl #[.int .u8 k, .int .i64 s] 41).drewN nq
  clear c0 f0 hg H2
  generalize hw3 : (w.alloc (.cells #[.int .u8 k, .int .i64 s] 41)).drewN nq = w3 at H3 ⊢
  clear hw3
  generalize w.heap.size = b at H3 ⊢
  have c0 := H3.cell 0 rfl (o := 0) rfl
  have c1 := H3.cell 2 rfl (o := 0) rfl
  have c2 := H3.cell 2 rfl (o := 1) rfl
  have f0 := H3.free 0 rfl 0
  have hg := H3.lt 0 rfl
  have hb := H3.lt 2 rfl
  have hr := H3.row 1 rfl
  go_region_law (refine step_append_any _ (by rfl) (.tmp 54) (.tmp 58) _ (by rfl) 0 43 i0 (.agg #[.int .u8 0, .int .i64 0, .int .i64 0]) 3 24 Try.underlying37 hi0 hz0 hz1 hz2 rfl (by omega) (.slice A 0 c) 0 [] (by rfl) ((hr.alloc _)) (some ⟨w3.heap.size, 0, none⟩) 1 1 [.int .u8 k, .int .i64 s, .int .i64 n] (by rfl) (rd_new _ _ _ 3 rfl) (by simp [Value.oneCell']) (by simp only [maxLen]; omega) (by omega) (by omega) ?_; intro v1 w1 hown1 hg1 hat1; obtain ⟨A1, d1, rfl, hd1, -⟩ := row_shape hown1; have H4 := ((H3.alloc 3 rfl #[.int .u8 k, .int .i64 s, .int .i64 n] 43).drew).grow 1 rfl hown1 hg1 hat1; have k0 := H4.cell 0 rfl (o := 0) rfl; have k1 := H4.cell 2 rfl (o := 0) rfl; have k2 := H4.cell 2 rfl (o := 1) rfl; have k3 := H4.free 0 rfl 0)
  all_goals go_wp2
  all_goals go_end0
  all_goals exact ⟨rfl, ledR_close [(k, s, n)] (H4.store 0 rfl (o := 0) (u := .slice A1 1 d1)) rfl rfl rfl rfl⟩

set_option maxHeartbeats 1000000 in
theorem refNoteTimes_same {F : List Nat} {w : World} (g m : Nat) (rs : List RunT) (k s c n : Int) (hm : rs.length = m + 1) (hr : rs[m]? = some (k, s, c)) (HF : St w F w (one (ledRO g rs))) (hn : 1 ≤ n) (hb : n ≤ 4611686018427387904) (hc0 : 0 ≤ c) (hc : c + n ≤ 4611686018427387904) (ht : 0 ≤ total rs) (ht' : total rs + n ≤ 4611686018427387904) (hl : m ≤ 1000000000000) :
    Calls Try.prog 66 #[lptr g, .agg #[.int .u8 k, .int .i64 s], .int .i64 n] w fun e w' => e = .returned (.tuple #[]) ∧ St w F w' (one (ledRO g (rs.set m (k, s, c + n)))) := by
  obtain ⟨v, H1⟩ := HF.openEx 0 rfl
  have H2 := H1.part 0 1 (by omega) rfl rfl
  clear HF H1
  obtain ⟨A, d, rfl, hd, hA⟩ := row_shape (H2.row 1 rfl)
  obtain ⟨g', rfl, -⟩ := hA (by omega)
  clear hA
  have c0 := H2.cell 0 rfl (o := 0) rfl
  have f0 := H2.free 0 rfl 0
  have hg := H2.lt 0 rfl
  have hn1 : ¬ n < 1 := by omega
  rw [hm] at c0
  have HM := Lib.hid hm
  have HR := Lib.hid hr
  clear hm hr
  unfold lptr
  go_enter Try.func66, Try.ntmps66
  go_wp2
  have H3 := (H2.allocAt 2 rfl w.heap.size rfl #[.int .u8 k, .int .i64 s] 41)
  clear c0 f0 hg H2
  generalize hw3 : (w.alloc (.cells #[.int .u8 k, .int .i64 s] 41)) = w3 at H3 ⊢
  clear hw3
  generalize w.heap.size = b at H3 ⊢
  have c0 := H3.cell 0 rfl (o := 0) rfl
  rw [HM.out] at c0
  have c1 := H3.cell 2 rfl (o := 0) rfl
  have c2 := H3.cell 2 rfl (o := 1) rfl
  obtain ⟨r0, r1, r2, fr⟩ := run_cells (H3.row 1 rfl) HR.out
  have hi : IntKind.i64.wrap (m : Int) = (m : Int) := IntWalk.i64_in _ (by omega)
  have hi3 : (0 : Int) ≤ (m : Int) := by omega
  go_quiet (fail)
  clear hi
  go_wp2
  refine region_quiet_tail 17 (by kernel_rfl) (by kernel_rfl) ?_
  simp only [List.take_succ_cons, List.take_zero, List.drop_succ_cons, List.drop_zero]
  repeat (go_big_quiet_step (fail))
  refine wpQuiet_nil ?_
  intro nq2
  go_wp2
  refine bodyPost_ret (results_none rfl _ _ _) rfl ⟨rfl, ?_⟩
  exact ledR_close _ ((H3.drewN (nq + nq2)).rowStore 1 rfl (o := m * 3 + 2) (u := .int .i64 (c + n))) rfl rfl (by rw [List.length_set]) (runsV_set rs m _ _ HR.out)

set_option maxHeartbeats 1000000 in
theorem refNoteTimes_other {F : List Nat} {w : World} (g m : Nat) (rs : List RunT) (k s k' s' c n : Int) (hm : rs.length = m + 1) (hr : rs[m]? = some (k', s', c)) (hne : ¬ (k' = k ∧ s' = s)) (HF : St w F w (one (ledRO g rs))) (hn : 1 ≤ n) (hb : n ≤ 4611686018427387904) (ht : 0 ≤ total rs) (ht' : total rs + n ≤ 4611686018427387904) (hl : m ≤ 1000000000000) :
    Calls Try.prog 66 #[lptr g, .agg #[.int .u8 k, .int .i64 s], .int .i64 n] w fun e w' => e = .returned (.tuple #[]) ∧ St w F w' (one (ledRO g (rs ++ [(k, s, n)]))) := by
  obtain ⟨v, H1⟩ := HF.openEx 0 rfl
  have H2 := H1.part 0 1 (by omega) rfl rfl
  clear HF H1
  obtain ⟨A, d, rfl, hd, hA⟩ := row_shape (H2.row 1 rfl)
  obtain ⟨g', rfl, -⟩ := hA (by omega)
  clear hA
  have c0 := H2.cell 0 rfl (o := 0) rfl
  have f0 := H2.free 0 rfl 0
  have hg := H2.lt 0 rfl
  have hn1 : ¬ n < 1 := by omega
  rw [hm] at c0
  have HM := Lib.hid hm
  have HR := Lib.hid hr
  have HN := Lib.hid hne
  clear hm hr hne
  unfold lptr
  go_enter Try.func66, Try.ntmps66
  go_wp2
  have H3 := (H2.allocAt 2 rfl w.heap.size rfl #[.int .u8 k, .int .i64 s] 41)
  clear c0 f0 hg H2
  generalize hw3 : (w.alloc (.cells #[.int .u8 k, .int .i64 s] 41)) = w3 at H3 ⊢
  clear hw3
  generalize w.heap.size = b at H3 ⊢
  have c0 := H3.cell 0 rfl (o := 0) rfl
  rw [HM.out] at c0
  have c1 := H3.cell 2 rfl (o := 0) rfl
  have c2 := H3.cell 2 rfl (o := 1) rfl
  obtain ⟨r0, r1, r2, fr⟩ := run_cells (H3.row 1 rfl) HR.out
  have hi : IntKind.i64.wrap (m : Int) = (m : Int) := IntWalk.i64_in _ (by omega)
  have hi2 : (m : Int) < (m : Int) + 1 := by omega
  have hi3 : (0 : Int) ≤ (m : Int) := by omega
  have hq : (k' == k) = false ∨ (k' = k ∧ (s' == s) = false) := by
    by_cases hk : k' = k
    · exact .inr ⟨hk, by simpa using fun h => HN.out ⟨hk, h⟩⟩
    · exact .inl (by simpa using hk)
  rcases hq with hq | ⟨hq0, hq⟩
  all_goals
    try (have hq1 := hq0.symm; subst hq1)
    go_quiet (fail)
    clear hi hi2 hi3 hq
    go_wp2
    have H4 := H3.drewN nq
    clear c0 c1 c2 r0 r1 r2 fr H3
    generalize w3.drewN nq = w4 at H4 ⊢
    obtain ⟨i0, hi0, hz0, hz1, hz2⟩ := info_parts run_info
    have c0 := H4.cell 0 rfl (o := 0) rfl
    rw [HM.out] at c0
    have c1 := H4.cell 2 rfl (o := 0) rfl
    have c2 := H4.cell 2 rfl (o := 1) rfl
    have f0 := H4.free 0 rfl 0
    have hg := H4.lt 0 rfl
    have hbb := H4.lt 2 rfl
    have hr := H4.row 1 rfl
    rw [HM.out] at hr
    go_region_law (refine step_append_any _ (by rfl) (.tmp 54) (.tmp 58) _ (by rfl) 0 43 i0 (.agg #[.int .u8 0, .int .i64 0, .int .i64 0]) 3 24 Try.underlying37 hi0 hz0 hz1 hz2 rfl (by omega) (.slice (some ⟨g', 0, none⟩) (m + 1) d) (m + 1) (runsV rs) (by rfl) ((hr.alloc _)) (some ⟨w4.heap.size, 0, none⟩) 1 1 [.int .u8 k, .int .i64 s, .int .i64 n] (by rfl) (rd_new _ _ _ 3 rfl) (by simp [Value.oneCell']) (by simp only [maxLen]; omega) (by omega) (by omega) ?_; intro v1 w1 hown1 hg1 hat1; obtain ⟨A1, d1, rfl, hd1, -⟩ := row_shape hown1; have H5 := ((H4.alloc 3 rfl #[.int .u8 k, .int .i64 s, .int .i64 n] 43).drew).grow 1 rfl hown1 hg1 hat1; have k0 := H5.cell 0 rfl (o := 0) rfl; have k3 := H5.free 0 rfl 0)
    all_goals go_wp2
    all_goals go_end0
    all_goals exact ⟨rfl, ledR_close (rs ++ [(k, s, n)]) (H5.store 0 rfl (o := 0) (u := .slice A1 (m + 1 + 1) d1)) rfl rfl (by simp [HM.out]) (by rw [runsV_append]; rfl)⟩

/-- Of any ledger that is one: an event is noted. -/
theorem refNoteTimes_led {F : List Nat} {w : World} (g : Nat) (rs : List RunT) (k s n : Int) (HF : St w F w (one (ledRO g rs))) (hn : 1 ≤ n) (hb : n ≤ 4611686018427387904) (h0 : ∀ r ∈ rs, 0 ≤ r.2.2) (ht' : total rs + n ≤ 4611686018427387904) (hl : rs.length ≤ 1000000000000) :
    Calls Try.prog 66 #[lptr g, .agg #[.int .u8 k, .int .i64 s], .int .i64 n] w fun e w' => e = .returned (.tuple #[]) ∧ St w F w' (one (ledRO g (noted rs k s n))) := by
  have ht := total_nonneg rs h0
  rcases Nat.eq_zero_or_pos rs.length with hz | hz
  · have : rs = [] := List.length_eq_zero_iff.1 hz
    subst this
    rw [noted_nil]
    exact refNoteTimes_nil g k s n HF hn hb
  · obtain ⟨m, hm⟩ : ∃ m, rs.length = m + 1 := ⟨rs.length - 1, by omega⟩
    obtain ⟨r, hr⟩ : ∃ r, rs[m]? = some r := ⟨rs[m], List.getElem?_eq_getElem (by omega)⟩
    obtain ⟨k', s', c⟩ := r
    have hc0 := h0 _ (List.mem_of_getElem? hr)
    have hc1 := total_ge rs h0 _ (List.mem_of_getElem? hr)
    by_cases he : k' = k ∧ s' = s
    · obtain ⟨rfl, rfl⟩ := he
      rw [noted_same rs m _ _ c n hm hr]
      exact refNoteTimes_same g m rs _ _ c n hm hr HF hn hb hc0 (by simp only at hc1; omega) ht ht' (by omega)
    · rw [noted_other rs m k s k' s' c n hm hr he]
      exact refNoteTimes_other g m rs k s k' s' c n hm hr he HF hn hb ht ht' (by omega)

/-- the document's ledger, or none -/
def ledR (l : Value) : Option (List RunT) → Own
  | none => .fact (l = .pointer none) .emp
  | some rs => .ex fun g => .fact (l = lptr g) (ledRO g rs)

section
variable {w0 w : World} {F0 : List Nat} {E : Env}

theorem St.ledRNil (H : St w0 F0 w E) (k : Nat) (hk : E k = Option.none) : St w0 F0 w (upd E k (ledR (.pointer none) none)) :=
  by have h := (H.nothing k hk).shutFact (p := Value.pointer none = Value.pointer none) rfl k upd_same; rw [upd_upd] at h; exact h

theorem St.ledROpen {l : Value} {rs : List RunT} (H : St w0 F0 w E) (i : Nat) (hi : E i = some (ledR l (some rs))) : ∃ g, l = lptr g ∧ St w0 F0 w (upd E i (ledRO g rs)) := by
  obtain ⟨g, H1⟩ := H.openEx i hi
  obtain ⟨h, H2⟩ := H1.openFact i upd_same
  simp only [upd_upd] at H2
  exact ⟨g, h, H2⟩

theorem St.ledRShut {rs : List RunT} {g : Nat} (H : St w0 F0 w E) (i : Nat) (hi : E i = some (ledRO g rs)) : St w0 F0 w (upd E i (ledR (lptr g) (some rs))) := by
  have H1 := H.shutFact (p := lptr g = lptr g) rfl i hi
  have H2 := H1.shutEx (A := fun g' => .fact (lptr g = lptr g') (ledRO g' rs)) g i upd_same
  simp only [upd_upd] at H2
  exact H2

theorem St.ledRRead {l : Value} {rs : List RunT} (H : St w0 F0 w E) (i : Nat) (hi : E i = some (ledR l (some rs))) :
    ∃ g A c, l = lptr g ∧ g < w.heap.size ∧ w.cell? ⟨g, 0, none⟩ = some (.slice A rs.length c) ∧ Rd w 3 A rs.length (runsV rs) := by
  obtain ⟨F, ⟨g, hl, v, G, K, eF, ⟨hb, -⟩, ⟨hr, -⟩, -⟩, -⟩ := H.change i hi
  obtain ⟨A, c, rfl, -, -⟩ := row_shape hr
  exact ⟨g, A, c, hl, lt_of_heap hb, by rw [cell_of_row w g 0 _ _ _ hb]; rfl, Rd.of_own hr⟩

theorem refLedger_new (H : St w0 F0 w E) (k : Nat) (hk : E k = Option.none) : Calls Try.prog 24 #[] w fun e w' => ∃ v, e = .returned v ∧ St w0 F0 w' (upd E k (ledR v (some []))) := by
  go_enter Try.func24, Try.ntmps24
  go_wp2
  go_ret
  refine ⟨_, rfl, ?_⟩
  have ho : (ledRO w.heap.size []).holds (w.alloc (.cells #[.slice none 0 0] 79)) [w.heap.size] :=
    ⟨.slice none 0 0, [w.heap.size], [], rfl, ⟨by rw [heap_alloc_new], rfl⟩, ⟨World.ownsRow_nil _ _ _ _, rfl⟩, by simp⟩
  have H1 := H.push k hk ((Below.refl _ _).alloc (Nat.le_refl _) _) ho (by simp)
  have H2 := H1.ledRShut k upd_same
  simp only [upd_upd] at H2
  exact H2

theorem refNoteTimes_zero (l : Value) (k s : Int) (hl : l = .pointer none ∨ ∃ g, l = lptr g) : Calls Try.prog 66 #[l, .agg #[.int .u8 k, .int .i64 s], .int .i64 0] w fun e w' => e = .returned (.tuple #[]) ∧ Below w.heap.size w w' := by
  rcases hl with rfl | ⟨g, rfl⟩
  · go_enter Try.func66, Try.ntmps66
    go_wp2
    refine bodyPost_ret (results_none rfl _ _ _) rfl ⟨rfl, ?_⟩
    exact (Below.refl _ _).alloc (Nat.le_refl _) _
  · unfold lptr
    go_enter Try.func66, Try.ntmps66
    go_wp2
    refine bodyPost_ret (results_none rfl _ _ _) rfl ⟨rfl, ?_⟩
    exact (Below.refl _ _).alloc (Nat.le_refl _) _

theorem refNoteTimes_null (k s n : Int) : Calls Try.prog 66 #[.pointer none, .agg #[.int .u8 k, .int .i64 s], .int .i64 n] w fun e w' => e = .returned (.tuple #[]) ∧ Below w.heap.size w w' := by
  go_enter Try.func66, Try.ntmps66
  go_wp2
  refine bodyPost_ret (results_none rfl _ _ _) rfl ⟨rfl, ?_⟩
  exact (Below.refl _ _).alloc (Nat.le_refl _) _

/-- an event so many times, none perhaps -/
theorem refNoteTimes_w {l : Value} {r : Option (List RunT)} (m : Nat) (b k s : Int) (n : Nat) (N : Int) (hN : N = n) (H : St w0 F0 w E) (i : Nat) (hi : E i = some (ledR l r)) (hg : LW r m b) (hm : m ≤ 1000000000000) (hb : b + n ≤ 4611686018427387904) (hn : n ≤ 4611686018427387904) :
    Calls Try.prog 66 #[l, .agg #[.int .u8 k, .int .i64 s], .int .i64 N] w fun e w' => e = .returned (.tuple #[]) ∧ St w0 F0 w' (upd E i (ledR l (noteN r k s n))) := by
  subst hN
  cases r with
  | none =>
    obtain ⟨rfl, H1⟩ := H.openFact i hi
    refine (refNoteTimes_null k s n).mono ?_
    rintro e w1 ⟨rfl, hb1⟩
    have H2 := H.call hb1
    refine ⟨rfl, ?_⟩
    have e : noteN none k s n = none := by unfold noteN; split <;> rfl
    rw [e, upd_id hi]
    exact H2
  | some rs =>
    rcases Nat.eq_zero_or_pos n with rfl | hp
    · obtain ⟨g, hl, -⟩ := H.ledROpen i hi
      refine (refNoteTimes_zero l k s (.inr ⟨g, hl⟩)).mono ?_
      rintro e w1 ⟨rfl, hb1⟩
      exact ⟨rfl, by rw [noteN_zero, upd_id hi]; exact H.call hb1⟩
    · obtain ⟨g, rfl, H1⟩ := H.ledROpen i hi
      obtain ⟨h1, hl, h2⟩ := hg rs rfl
      have h0 : ∀ r ∈ rs, 0 ≤ r.2.2 := fun r hr => by have := h1 r hr; omega
      obtain ⟨F, HF, -, -, hback⟩ := H1.frame1 i upd_same
      refine (refNoteTimes_led g rs k s n HF (by omega) (by omega) h0 (by omega) (by omega)).mono ?_
      rintro e w1 ⟨rfl, hs⟩
      have H3 := (hback _ _ hs).ledRShut i upd_same
      simp only [upd_upd] at H3
      refine ⟨rfl, ?_⟩
      unfold noteN
      rw [if_neg (by omega)]
      exact H3

set_option maxHeartbeats 400000 in
theorem refNote_w {l : Value} {r : Option (List RunT)} (m : Nat) (b k s : Int) (H : St w0 F0 w E) (i : Nat) (hi : E i = some (ledR l r)) (hg : LW r m b) (hm : m ≤ 1000000000000) (hb : b ≤ 4611686018427387903) :
    Calls Try.prog 56 #[l, .agg #[.int .u8 k, .int .i64 s]] w fun e w' => e = .returned (.tuple #[]) ∧ St w0 F0 w' (upd E i (ledR l (noteN r k s 1))) := by
  have hl : l = .pointer none ∨ ∃ g, l = lptr g := by
    cases r with
    | none => exact .inl (H.openFact i hi).1
    | some rs => obtain ⟨g, h, -⟩ := H.ledROpen i hi; exact .inr ⟨g, h⟩
  have H2 := H.call ((Below.refl _ _).alloc (Nat.le_refl _) (.cells #[.int .u8 k, .int .i64 s] 41))
  have hc := refNoteTimes_w m b k s 1 1 rfl H2 i hi hg hm (by omega) (by omega)
  have HC := Lib.hid hc
  clear hc H2 H
  rcases hl with rfl | ⟨g, rfl⟩
  all_goals
    (try unfold lptr at HC ⊢)
    go_enter Try.func56, Try.ntmps56
    go_wp2_with fail
    refine HC.out.mono ?_
    rintro e w1 ⟨rfl, hs⟩
    go_wp2
    go_end0
    exact ⟨rfl, hs⟩

theorem hold_here' {p : Prop} (h : Hid p) : p := h

theorem St.rdBlk {w0 w : World} {F0 : List Nat} {E : Env} {g : Nat} {T : TypeId} {cs : List Value} (H : St w0 F0 w E) (k : Nat) (hk : E k = some (.blk g T cs)) (size n : Nat) (hl : cs.length = n * size) : Rd w size (some ⟨g, 0, none⟩) n cs :=
  ⟨hl, fun _ => ⟨_, rfl, H.lt k hk, fun j u hu => by rw [Addr.add_mid, Nat.zero_add]; exact H.cell k hk hu⟩⟩

theorem total_take_succ {rs : List RunT} {j : Nat} {x : RunT} (h : rs[j]? = some x) : total (rs.take (j + 1)) = total (rs.take j) + x.2.2 := by
  rw [List.take_add_one, h, total_append]
  simp [total]

theorem total_take_le {rs : List RunT} (h : ∀ x ∈ rs, 0 ≤ x.2.2) (j : Nat) : 0 ≤ total (rs.take j) ∧ total (rs.take j) ≤ total rs := by
  have h1 := total_nonneg (rs.take j) fun x hx => h x (List.mem_of_mem_take hx)
  have h2 := total_nonneg (rs.drop j) fun x hx => h x (List.mem_of_mem_drop hx)
  have h3 := total_append (rs.take j) (rs.drop j)
  rw [List.take_append_drop] at h3
  omega

theorem runsV_snoc {rs : List RunT} {j : Nat} {x : RunT} (h : rs[j]? = some x) : runsV (rs.take (j + 1)) = runsV (rs.take j) ++ runV x := by
  rw [List.take_add_one, h, runsV_append]
  simp [runsV]

set_option maxHeartbeats 1000000 in
/-- how many events the document's ledger has -/
theorem refLen_w {l : Value} {rs : List RunT} (m : Nat) (b : Int) (H : St w0 F0 w E) (i : Nat) (hi : E i = some (ledR l (some rs))) (hg : LW (some rs) m b) (hm : m ≤ 1000000000000) (hb : b ≤ 4611686018427387904) :
    Calls Try.prog 27 #[l] w fun e w' => e = .returned (.int .i64 (total rs)) ∧ w = w' := by
  obtain ⟨g, A, c, rfl, hlt, c0, hr⟩ := H.ledRRead i hi
  obtain ⟨h1, h2, h3⟩ := hg rs rfl
  have h0 : ∀ r ∈ rs, 0 ≤ r.2.2 := fun r hr => by have := h1 r hr; omega
  have HT := Lib.hid (total_take_le h0)
  have HB := Lib.hid h3
  have HE : Hid (total (rs.take rs.length) = total rs) := by unfold Hid; rw [List.take_length]
  clear h0 h1 h3 H hg
  unfold lptr
  generalize hN : rs.length = N at c0 hr h2 HE
  have HN := Lib.hid hN
  clear hN
  go_enter Try.func27, Try.ntmps27
  go_wp2
  go_loop [3, 4] (fun t i => ∃ k : Nat, k ≤ N ∧ i = .int .i64 k ∧ t = .int .i64 (total (rs.take k))) (fun _ i => N - (intOf i).toNat)
  case atStart => exact ⟨0, Nat.zero_le _, rfl, rfl⟩
  case round =>
    obtain ⟨k, hk, rfl, rfl⟩ := hrel
    by_cases hlt2 : k < N
    · obtain ⟨x, hx⟩ : ∃ r, rs[k]? = some r := ⟨_, List.getElem?_eq_getElem (by rw [HN.out]; exact hlt2)⟩
      obtain ⟨p, o, rfl, -, hcx⟩ := hr.flat (by omega) (by omega)
      have a0 := hcx (k * 3 + 2) _ (by rw [runsV_get rs k 2 x hx (by omega)]; rfl)
      rw [← Nat.add_assoc] at a0
      have HS := Lib.hid (total_take_succ hx)
      have b1 := HT.out k
      have b2 := HT.out (k + 1)
      have b3 := HB.out
      rw [HS.out] at b2
      have hk1 : (k : Int) < N := by omega
      generalize x.2.2 = xc at a0 HS b2
      generalize total (rs.take k) = T at HS b1 b2 ⊢
      clear hx hcx
      go_wp2
      go_round
      case rel => exact ⟨k + 1, by omega, by go_num, congrArg (Value.int IntKind.i64) HS.out.symm⟩
      case measure => simp [intOf]; omega
    · obtain rfl : N = k := by omega
      rw [HE.out]
      go_wp2
      go_ret
      exact ⟨rfl, rfl⟩

set_option maxHeartbeats 1000000 in
theorem refRuns_w {l : Value} {rs : List RunT} (m : Nat) (b : Int) (H : St w0 F0 w E) (i : Nat) (hi : E i = some (ledR l (some rs))) (hg : LW (some rs) m b) (hm : m ≤ 1000000000) (q : Nat) (hq : E q = Option.none) :
    Calls Try.prog 28 #[l] w fun e w' => ∃ v, e = .returned v ∧ St w0 F0 w' (upd E q (runsO v rs)) := by
  obtain ⟨i0, hi0, hz0, hz1, hz2⟩ := info_parts run_info
  obtain ⟨g, A, c, hlp, hlt, c0, hr⟩ := H.ledRRead i hi
  obtain ⟨h1, h2, h3⟩ := hg rs rfl
  have HE : Hid (rs.take rs.length = rs) := by unfold Hid; rw [List.take_length]
  clear h1 h3 hg
  generalize hN : rs.length = N at c0 hr h2 HE
  have HN := Lib.hid hN
  clear hN
  have HH := Lib.hid H
  have G := St.start_lay w []
  replace G := (G.nilRow 0 rfl 43 3).push_mk rfl
  have HRR : Hid (Rd w 3 A N (runsV rs)) := hr
  have HLP := Lib.hid hlp
  obtain rfl := hlp
  unfold lptr
  go_enter Try.func28, Try.ntmps28
  clear H c0 hr
  go_wp2
  go_loopw [3, 4] (fun t i wr => ∃ k : Nat, k ≤ N ∧ i = .int .i64 k ∧ St w [] wr (lay [.row 43 3 t k (runsV (rs.take k))])) (fun _ i _ => N - (intOf i).toNat)
  case atStart => exact ⟨0, Nat.zero_le _, rfl, G⟩
  case round =>
    clear G
    obtain ⟨k, hk, rfl, G⟩ := hrel
    obtain ⟨g', A', c', e, hlt, c0, hr⟩ := (HH.out.call G.below).ledRRead i hi
    unfold lptr at e
    injection e with e
    injection e with e
    injection e with e
    subst e
    rw [HN.out] at c0 hr
    by_cases hlt2 : k < N
    · obtain ⟨x, hx⟩ : ∃ r, rs[k]? = some r := ⟨_, List.getElem?_eq_getElem (by rw [HN.out]; exact hlt2)⟩
      obtain ⟨p, o, rfl, -, hcx⟩ := hr.flat (by omega) (by omega)
      have a0 := hcx (k * 3 + 0) _ (by rw [runsV_get rs k 0 x hx (by omega)]; rfl)
      have a1 := hcx (k * 3 + 1) _ (by rw [runsV_get rs k 1 x hx (by omega)]; rfl)
      have a2 := hcx (k * 3 + 2) _ (by rw [runsV_get rs k 2 x hx (by omega)]; rfl)
      simp only [← Nat.add_assoc, Nat.add_zero] at a0 a1 a2
      have HS := Lib.hid (runsV_snoc hx)
      have hk1 : (k : Int) < N := by omega
      obtain ⟨x0, x1, x2⟩ := x
      simp only at a0 a1 a2
      clear hx hcx hr
      obtain ⟨A3, c3, rfl, -⟩ := row_form (G.row 0 rfl)
      go_wp2_with (at_builtin; refine hold_here' ?_)
      refine Lib.hid ?_
      refine absorb_list (G.allocAt 1 rfl wr.heap.size rfl #[.int .u8 x0, .int .i64 x1, .int .i64 x2] 43 |>.push_mk rfl) ?_
      clear G
      intro w5 G
      generalize wr.heap.size = gN at G ⊢
      refine wpList_append_any _ rfl (.tmp 18) (.tmp 26) _ rfl 0 43 i0 _ 3 24 Try.underlying37 hi0 hz0 hz1 hz2 rfl (by omega) (.slice A3 k c3) k (runsV (rs.take k)) rfl (G.row 0 rfl) (some ⟨gN, 0, none⟩) 1 1 [.int .u8 x0, .int .i64 x1, .int .i64 x2] rfl (G.rdBlk 1 rfl 3 1 rfl) (by intro u hu; simp at hu; rcases hu with rfl | rfl | rfl <;> rfl) (by simp only [maxLen]; omega) (by omega) (by omega) ?_
      intro v6 w6 hown6 hg6 hat6
      replace G := ((G.grow 0 rfl hown6 hg6 hat6).upd_mk (by simp)).front 1
      clear hown6 hg6 hat6
      have G2 : St w [] w6 (lay [.row 43 3 v6 (k + 1) (runsV (rs.take (k + 1)))]) := by rw [HS.out]; exact G
      clear G
      go_wp2
      go_roundw
      case rel => exact ⟨k + 1, by omega, by go_num, G2⟩
      case measure => simp [intOf]; omega
    · obtain rfl : N = k := by omega
      go_wp2
      go_ret
      refine ⟨_, rfl, ?_⟩
      rw [HE.out] at G
      have H2 := HH.out.pushRow q hq G.below (G.ownRow 0 rfl)
      rw [← HN.out] at H2
      exact H2

end

end Go.Proofs.Ytgjlclihgpahbaa

namespace Go.Proofs.Ytgjlclihgpahbaa
open Go.RowKit
set_option linter.unusedVariables false
set_option maxRecDepth 100000

theorem lives_val : (Sp.new 168 31).shut.read 8 = [0x7f, 0x9c, 0x2b, 0xa4, 0xe8, 0x8f, 0x82, 0x7d] := by decide +kernel

theorem total_nil : total [] = 0 := rfl

attribute [local irreducible] permB kBytes kPerm kFrom

theorem spBelow {w w' : World} {a : Addr} {v : Value} (hb : Below w.heap.size w w') (h : w.cell? a = some v) : w'.cell? a = some v := by
  rw [hb.cell (World.block_lt_of_cell? w _ h)]; exact h

theorem SpNo.below {w w' : World} {s : Value} (h : SpNo w s) (hb : Below w.heap.size w w') : SpNo w' s := by
  rcases h with rfl | ⟨g, rfl, c0, c3⟩
  · exact .inl rfl
  · exact .inr ⟨g, rfl, spBelow hb c0, spBelow hb c3⟩

/-- a sponge that Wipe left, or that nobody made -/
theorem St.spNo {w0 w : World} {F0 : List Nat} {E : Env} {g : Nat} (H : St w0 F0 w E) (k : Nat) (hk : E k = some (.blk g 71 spZero)) : SpNo w (lptr g) :=
  .inr ⟨g, rfl, H.cell k hk (by unfold spZero; rw [sp_get _ _ 0 zb200 rfl]; rfl), H.cell k hk (by unfold spZero; rw [sp_get _ _ 3 zb200 rfl]; rfl)⟩

section
variable {w : World}

set_option maxHeartbeats 1000000 in
theorem lives_s : Calls Try.prog 18 #[] w fun e w' => e = .returned (.bool true) ∧ Below w.heap.size w w' := by
  have H := (St.start_lay w []).ledNil 0 rfl |>.push_mk rfl
  go_enter Try.func18, Try.ntmps18
  go_wp2_with fail
  refine (spNew_s 168 31 H 1 rfl (by omega) (by omega) (by omega)).mono ?_
  rintro e w1 ⟨g, rfl, H1⟩
  replace H1 := H1.push_mk rfl
  clear H
  unfold lptr
  go_wp2_with fail
  refine (spRead_s (.pointer none) none 0 0 g (Sp.new 168 31) 8 8 rfl H1 0 1 2 (by omega) rfl rfl rfl (LW.none _ _) (by omega) (by omega) (Sp.new_ok _ _ (by omega) (by omega)) (by omega)).mono ?_
  rintro e w2 ⟨v, rfl, H2⟩
  rw [lives_val, upd_laid (by simp), upd_laid (by simp)] at H2
  replace H2 := H2.push_mk rfl
  obtain ⟨A, c, rfl, -⟩ := row_form (H2.row 2 rfl)
  clear H1
  go_wp2_with fail
  refine absorb_calls (H2.allocAt 3 rfl w2.heap.size rfl _ _ |>.push_mk rfl) ?_
  intro w3 H3
  clear H2
  generalize w2.heap.size = g3 at H3 ⊢
  refine (sameBytes_yes A _ 8 8 c 8 [0x7f, 0x9c, 0x2b, 0xa4, 0xe8, 0x8f, 0x82, 0x7d] [0x7f, 0x9c, 0x2b, 0xa4, 0xe8, 0x8f, 0x82, 0x7d] w3 (H3.rd 2 rfl) (H3.rdBlk 3 rfl 1 8 rfl) (by omega) (by omega) rfl).mono ?_
  rintro e w4 ⟨rfl, hb⟩
  go_wp2
  go_ret
  exact ⟨rfl, (H3.call hb).below⟩

theorem rateOf_s (n : Int) (h1 : -9223372036854775808 ≤ n) (h2 : n ≤ 9223372036854775807) : Calls Try.prog 19 #[.int .i64 n] w fun e w' => (∃ r : Int, e = .returned (.int .i64 r) ∧ 8 ≤ r ∧ r ≤ 192 ∧ r % 8 = 0 ∧ r = 8 + 8 * (n % 24)) ∧ w = w' := by
  go_enter Try.func19, Try.ntmps19
  go_wp2_with fail
  refine (pick_any n 24 w h1 h2 (by omega) (by omega) rfl).mono ?_
  rintro e w1 ⟨⟨m, hm, he, rfl⟩, rfl⟩
  have hm1 : (m : Int) ≤ 23 := by omega
  have HE := Lib.hid he
  clear he
  go_wp2
  go_ret
  exact ⟨⟨8 + 8 * (m : Int), rfl, by omega, by omega, by omega, by have := HE.out; omega⟩, rfl⟩

set_option maxHeartbeats 1000000 in
theorem empty_s (s v : Value) (n : Int) (h : SpNo w s) : Calls Try.prog 31 #[s, v, .int .i64 n] w fun e w' => e = .returned (.bool true) ∧ Below w.heap.size w w' := by
  have H := St.start_lay w []
  go_enter Try.func31, Try.ntmps31
  go_wp2_with fail
  refine (ledger_new H 0 rfl).mono ?_
  rintro e w1 ⟨l, rfl, H1⟩
  replace H1 := H1.push_mk rfl
  have hs := h.below H1.below
  clear H h
  go_wp2_with fail
  refine (spRead_none l n s hs).mono ?_
  rintro e w2 ⟨rfl, rfl⟩
  go_wp2_with fail
  refine (spClone_none s hs).mono ?_
  rintro e w2 ⟨rfl, rfl⟩
  go_wp2_with fail
  refine (spWrite_none l v s hs).mono ?_
  rintro e w2 ⟨rfl, rfl⟩
  go_wp2_with fail
  refine (spClose_none l s hs).mono ?_
  rintro e w2 ⟨rfl, rfl⟩
  go_wp2_with fail
  refine (spWipe_none l s hs).mono ?_
  rintro e w2 ⟨rfl, rfl⟩
  go_wp2_with fail
  refine (spForm_none s hs).mono ?_
  rintro e w2 ⟨rfl, rfl⟩
  go_wp2_with fail
  refine (spRate_none s hs).mono ?_
  rintro e w2 ⟨rfl, rfl⟩
  go_wp2_with fail
  refine (spShut_none s hs).mono ?_
  rintro e w2 ⟨rfl, rfl⟩
  go_wp2_with fail
  refine (ledger_len_w H1 0 rfl).mono ?_
  rintro e w2 ⟨rfl, rfl⟩
  rw [total_nil]
  go_wp2
  go_ret
  exact ⟨rfl, H1.below⟩

end

end Go.Proofs.Ytgjlclihgpahbaa

namespace Go.Proofs.Ytgjlclihgpahbaa
open Go.RowKit
set_option linter.unusedVariables false

theorem lane_i (x y : Int) (w : World) (h1 : 0 ≤ x) (h2 : x ≤ 1000) (h3 : 0 ≤ y) (h4 : y ≤ 1000) :
    Calls Try.prog 72 #[.int .i64 x, .int .i64 y] w fun e w' => e = .returned (.int .i64 (x % 5 + 5 * (y % 5))) ∧ w = w' := by
  go_enter Try.func72, Try.ntmps72
  go_wp2
  go_ret
  exact ⟨rfl, rfl⟩
theorem lane_q (x y : Int) (w : World) (q : Nat) (h1 : 0 ≤ x) (h2 : x ≤ 1000) (h3 : 0 ≤ y) (h4 : y ≤ 1000) :
    Calls Try.prog 72 #[.int .i64 x, .int .i64 y] (w.drewN q) fun e w' => e = .returned (.int .i64 (x % 5 + 5 * (y % 5))) ∧ ∃ m, w' = w.drewN m :=
  (lane_i x y _ h1 h2 h3 h4).mono fun _ _ h => ⟨h.1, q, h.2.symm⟩

set_option maxHeartbeats 400000 in
theorem turn_r (x : UInt64) (n : Nat) (w : World) (hn : n ≤ 1000) :
    Calls Try.prog 73 #[.int .u64 (x.toNat : Int), .int .i64 (n : Int)] w fun e w' => e = .returned (.int .u64 ((rotl x n).toNat : Int)) ∧ ∃ q, w' = w.drewN q := by
  have HR := Lib.hid (rot_bits_64 x.toNat (n % 64) (Nat.mod_lt _ (by omega)) x.toNat_lt)
  have HT := Lib.hid (rotl_toNat x n)
  generalize hX : x.toNat = X at *
  have hX' : X < 18446744073709551616 := by rw [← hX]; exact x.toNat_lt
  clear hX
  obtain ⟨m, hm⟩ : ∃ m : Nat, m = n % 64 := ⟨_, rfl⟩
  have he : (n : Int) % 64 = (m : Int) := by omega
  have hm' : m < 64 := by omega
  rw [← hm] at HR HT
  clear hm
  go_enter Try.func73, Try.ntmps73
  go_wp2
  go_quiet (fail)
  go_wp2
  go_ret
  refine ⟨ret_int ?_, nq, rfl⟩
  rw [IntKind.wrap_u64, HR.out, HT.out]
theorem turnr_q (x : UInt64) (n : Nat) (w : World) (q : Nat) (hn : n ≤ 1000) :
    Calls Try.prog 73 #[.int .u64 (x.toNat : Int), .int .i64 (n : Int)] (w.drewN q) fun e w' => e = .returned (.int .u64 ((rotl x n).toNat : Int)) ∧ ∃ m, w' = w.drewN m :=
  (turn_r x n _ hn).mono fun _ _ ⟨h, m, h'⟩ => ⟨h, q + m, by rw [h', World.drewN_drewN]⟩
theorem turnr_at (x : UInt64) (m : Int) (n : Nat) (h : m = (n : Int)) (hn : n ≤ 1000) (w : World) : Calls Try.prog 73 #[.int .u64 (x.toNat : Int), .int .i64 m] w fun e w' => e = .returned (.int .u64 ((rotl x n).toNat : Int)) ∧ ∃ q, w' = w.drewN q := by
  subst h; exact turn_r x n w hn
theorem state24_size : (Try.prog.info? 92).map (·.size) = some 25 := by kernel_rfl
theorem rColY_length (a : List UInt64) (x : Nat) (p : List UInt64) (k : Nat) : (rColY a x p k).length = p.length := iter_length _ _ (fun _ _ => by simp) _
theorem rCol_length (a : List UInt64) (k : Nat) : (rCol a k).length = 5 := by unfold rCol; rw [iter_length _ _ (fun l x => rColY_length a x l 5)]; simp
theorem rMixY_length (d : UInt64) (x : Nat) (a : List UInt64) (k : Nat) : (rMixY d x a k).length = a.length := iter_length _ _ (fun _ _ => by simp) _
theorem rMix_length (p a : List UInt64) (k : Nat) : (rMix p a k).length = a.length := iter_length _ _ (fun l x => rMixY_length _ x l 5) _
theorem rWalk_length (a : List UInt64) (k : Nat) : (rWalk a k).length = 25 := by unfold rWalk; rw [iter_length _ _ (fun _ _ => by simp)]; simp
theorem rChiY_length (b : List UInt64) (x : Nat) (a : List UInt64) (k : Nat) : (rChiY b x a k).length = a.length := iter_length _ _ (fun _ _ => by simp) _
theorem rChi_length (b a : List UInt64) (k : Nat) : (rChi b a k).length = a.length := iter_length _ _ (fun l x => rChiY_length b x l 5) _

theorem andNot64 (x y : UInt64) : bits .andNot .u64 (x.toNat : Int) (y.toNat : Int) = ((~~~y &&& x).toNat : Int) := by
  rw [u64_andNot_nat _ _ x.toNat_lt y.toNat_lt, UInt64.toNat_and, UInt64.toNat_not, Nat.and_comm]
  rfl
theorem there_eq {w : World} {b o n m : Nat} (h : w.there b o n) (e : n = m) : w.there b o m := e ▸ h
theorem tri_le (k : Nat) (h : k < 24) : (k + 1) * (k + 2) / 2 ≤ 1000 := by
  have h1 : (k + 1) * (k + 2) ≤ 24 * 25 := Nat.mul_le_mul (by omega) (by omega)
  omega
theorem rCol_zero (s : List UInt64) : rCol s 0 = List.replicate 5 0 := rfl
theorem rCol_succ (s : List UInt64) (x : Nat) : rCol s (x + 1) = rColY s x (rCol s x) 5 := rfl
theorem rMix_zero (p s : List UInt64) : rMix p s 0 = s := rfl
theorem rMix_succ (P s : List UInt64) (x : Nat) : rMix P s (x + 1) = rMixY (at64 P ((x + 4) % 5) ^^^ rotl (at64 P ((x + 1) % 5)) 1) x (rMix P s x) 5 := rfl
theorem rWalk_zero (A : List UInt64) : rWalk A 0 = (List.replicate 25 0).set 0 (at64 A 0) := rfl
theorem rWalk_succ (A : List UInt64) (k : Nat) : rWalk A (k + 1) = (rWalk A k).set (rLane (kPlace k).2 (2 * (kPlace k).1 + 3 * (kPlace k).2)) (rotl (at64 A (rLane (kPlace k).1 (kPlace k).2)) ((k + 1) * (k + 2) / 2)) := rfl
theorem rChi_zero (b a : List UInt64) : rChi b a 0 = a := rfl
theorem rChi_succ (b a : List UInt64) (x : Nat) : rChi b a (x + 1) = rChiY b x (rChi b a x) 5 := rfl
theorem kPlace_zero : kPlace 0 = (1, 0) := rfl
theorem kPlace_succ (k : Nat) : kPlace (k + 1) = ((kPlace k).2, (2 * (kPlace k).1 + 3 * (kPlace k).2) % 5) := rfl
theorem rRound_def (s : List UInt64) (c : UInt64) : rRound s c = (rChi (rWalk (rMix (rCol s 5) s 5) 24) (rMix (rCol s 5) s 5) 5).set 0 (at64 (rChi (rWalk (rMix (rCol s 5) s 5) 24) (rMix (rCol s 5) s 5) 5) 0 ^^^ c) := rfl
attribute [local irreducible] rCol rMix rWalk rChi rRound kPlace

set_option maxRecDepth 100000 in
set_option maxHeartbeats 4000000 in
theorem round_s (s : List UInt64) (c : UInt64) (hs : s.length = 25) (w : World) :
    Calls Try.prog 70 #[.agg (s.map u64v).toArray, .int .u64 (c.toNat : Int)] w fun e w' => e = .returned (.agg ((rRound s c).map u64v).toArray) ∧ Below w.heap.size w w' := by
  have HS := Lib.hid hs
  clear hs
  go_enter Try.func70, Try.ntmps70
  go_wp2
  refine absorb_wp (St.start_lay w [] |>.allocAt 0 rfl w.heap.size rfl _ _ |>.push_mk rfl |>.allocAt 1 rfl (w.heap.size + 1) (by simp) _ _ |>.push_mk rfl |>.allocAt 2 rfl (w.heap.size + 1 + 1) (by simp) _ _ |>.push_mk rfl) ?_
  intro w3 H3
  generalize w.heap.size + 1 + 1 = g3 at H3 ⊢
  generalize w.heap.size + 1 = g2 at H3 ⊢
  generalize w.heap.size = g1 at H3 ⊢
  go_loopw [6] (fun i wr => ∃ k : Nat, k ≤ 5 ∧ i = .int .i64 k ∧ St w [] wr (lay [.blk g1 92 (s.map u64v), .blk g2 92 ((List.replicate 25 0).map u64v), .blk g3 110 ((rCol s k).map u64v)])) (fun i _ => 5 - (intOf i).toNat)
  case atStart => exact ⟨0, by omega, rfl, by rw [rCol_zero]; exact H3⟩
  case round =>
    clear H3
    obtain ⟨x, hx, rfl, Hx⟩ := hrel
    by_cases hlt : x < 5
    · have HE := Lib.hid (rCol_succ s x)
      have HL := Lib.hid (rCol_length s x)
      generalize rCol s x = p at *
      have hx1 : (x : Int) < 5 := by omega
      go_wp2
      go_loopw [7] (fun j wr => ∃ y : Nat, y ≤ 5 ∧ j = .int .i64 y ∧ St w [] wr (lay [.blk g1 92 (s.map u64v), .blk g2 92 ((List.replicate 25 0).map u64v), .blk g3 110 ((rColY s x p y).map u64v)])) (fun j _ => 5 - (intOf j).toNat)
      case atStart => exact ⟨0, by omega, rfl, Hx⟩
      case round =>
        clear Hx
        obtain ⟨y, hy, rfl, Hy⟩ := hrel
        by_cases hly : y < 5
        · have hy1 : (y : Int) < 5 := by omega
          have a0 := Hy.cell 0 rfl (u64_get (k := x % 5 + 5 * (y % 5)) (by rw [HS.out]; omega))
          have b0 := Hy.cell 2 rfl (u64_get (k := x) (by rw [rColY_length, HL.out]; exact hlt))
          have bf := Hy.free 2 rfl x
          go_wp2
          refine region_quiet_tail 11 (by kernel_rfl) (by kernel_rfl) ?_
          simp only [List.take_succ_cons, List.take_zero, List.drop_succ_cons, List.drop_zero]
          repeat (go_big_quiet_step ((go_at_call 72; exact lane_q _ _ _ _ (by omega) (by omega) (by omega) (by omega))))
          refine wpQuiet_nil ?_
          intro nq
          go_wp2
          go_roundw
          case rel => exact ⟨y + 1, by omega, by go_num, by rw [xor64]; exact by have h := ((Hy.drewN nq).store 2 rfl (o := x) (u := u64v (at64 (rColY s x p y) x ^^^ at64 s (x % 5 + 5 * (y % 5))))).upd_mk (by simp); rw [u64_set] at h; exact h⟩
          case measure => simp [intOf]; omega
        · obtain rfl : y = 5 := by omega
          rw [show ((5 : Nat) : Int) = 5 from rfl]
          rw [← HE.out] at Hy
          go_wp2
          go_roundw
          case rel => exact ⟨x + 1, by omega, by go_num, Hy⟩
          case measure => simp [intOf]; omega
    · obtain rfl : x = 5 := by omega
      rw [show ((5 : Nat) : Int) = 5 from rfl]
      have HPL := Lib.hid (rCol_length s 5)
      generalize hP : rCol s 5 = P at *
      have HP := Lib.hid hP
      clear hP
      go_wp2
      go_loopw [8] (fun i wr => ∃ k : Nat, k ≤ 5 ∧ i = .int .i64 k ∧ St w [] wr (lay [.blk g1 92 ((rMix P s k).map u64v), .blk g2 92 ((List.replicate 25 0).map u64v), .blk g3 110 (P.map u64v)])) (fun i _ => 5 - (intOf i).toNat)
      case atStart => exact ⟨0, by omega, rfl, by rw [rMix_zero]; exact Hx⟩
      case round =>
        clear Hx
        obtain ⟨x, hx, rfl, Hx⟩ := hrel
        by_cases hlt : x < 5
        · have HE := Lib.hid (rMix_succ P s x)
          have HL : Hid ((rMix P s x).length = 25) := by have := rMix_length P s x; rw [HS.out] at this; exact this
          generalize rMix P s x = a at *
          have hx1 : (x : Int) < 5 := by omega
          have b0 := Hx.cell 2 rfl (u64_get (k := (x + 4) % 5) (by rw [HPL.out]; omega))
          have b1 := Hx.cell 2 rfl (u64_get (k := (x + 1) % 5) (by rw [HPL.out]; omega))
          have hT := turnr_q (at64 P ((x + 1) % 5)) 1
          go_wp2
          go_quiet ((go_at_call 73; exact hT _ _ (by omega)))
          clear hT b0 b1
          rw [xor64]
          generalize at64 P ((x + 4) % 5) ^^^ rotl (at64 P ((x + 1) % 5)) 1 = d at *
          replace Hx := Hx.drewN nq
          go_wp2
          go_loopw [10] (fun j wr => ∃ y : Nat, y ≤ 5 ∧ j = .int .i64 y ∧ St w [] wr (lay [.blk g1 92 ((rMixY d x a y).map u64v), .blk g2 92 ((List.replicate 25 0).map u64v), .blk g3 110 (P.map u64v)])) (fun j _ => 5 - (intOf j).toNat)
          case atStart => exact ⟨0, by omega, rfl, Hx⟩
          case round =>
            clear Hx
            obtain ⟨y, hy, rfl, Hy⟩ := hrel
            by_cases hly : y < 5
            · have hy1 : (y : Int) < 5 := by omega
              have a0 := Hy.cell 0 rfl (u64_get (k := x % 5 + 5 * (y % 5)) (by rw [rMixY_length, HL.out]; omega))
              have af := Hy.free 0 rfl (x % 5 + 5 * (y % 5))
              go_wp2_with fail
              refine (lane_i _ _ _ (by omega) (by omega) (by omega) (by omega)).mono ?_
              rintro e w' ⟨rfl, rfl⟩
              go_wp2_with fail
              refine (lane_i _ _ _ (by omega) (by omega) (by omega) (by omega)).mono ?_
              rintro e w' ⟨rfl, rfl⟩
              go_wp2
              go_roundw
              case rel => exact ⟨y + 1, by omega, by go_num, by rw [xor64]; exact by have h := (Hy.store 0 rfl (o := x % 5 + 5 * (y % 5)) (u := u64v (at64 (rMixY d x a y) (x % 5 + 5 * (y % 5)) ^^^ d))).upd_mk (by simp); rw [u64_set] at h; exact h⟩
              case measure => simp [intOf]; omega
            · obtain rfl : y = 5 := by omega
              rw [show ((5 : Nat) : Int) = 5 from rfl]
              rw [← HE.out] at Hy
              go_wp2
              go_roundw
              case rel => exact ⟨x + 1, by omega, by go_num, Hy⟩
              case measure => simp [intOf]; omega
        · obtain rfl : x = 5 := by omega
          rw [show ((5 : Nat) : Int) = 5 from rfl]
          have HAL : Hid ((rMix P s 5).length = 25) := by have := rMix_length P s 5; rw [HS.out] at this; exact this
          generalize hA : rMix P s 5 = A at *
          have HA := Lib.hid hA
          clear hA
          have a0 := Hx.cell 0 rfl (u64_get (k := 0) (by rw [HAL.out]; omega))
          have hg := Hx.lt 0 rfl
          go_wp2
          refine absorb_wp (Hx.allocAt 3 rfl wr.heap.size rfl _ _ |>.push_mk rfl) ?_
          intro w4 H4
          clear a0 hg Hx
          generalize wr.heap.size = g4 at H4 ⊢
          go_loopw [12, 13, 14] (fun x y i wr => ∃ k : Nat, k ≤ 24 ∧ i = .int .i64 k ∧ x = .int .i64 ((kPlace k).1 : Nat) ∧ y = .int .i64 ((kPlace k).2 : Nat) ∧ St w [] wr (lay [.blk g1 92 (A.map u64v), .blk g2 92 ((List.replicate 25 0).map u64v), .blk g3 110 (P.map u64v), .blk g4 92 ((rWalk A k).map u64v)])) (fun _ _ i _ => 24 - (intOf i).toNat)
          case atStart => exact ⟨0, by omega, rfl, by rw [kPlace_zero]; rfl, by rw [kPlace_zero]; rfl, by rw [rWalk_zero]; exact H4⟩
          case round =>
            clear H4
            obtain ⟨k, hk, rfl, rfl, rfl, Hk⟩ := hrel
            by_cases hlt : k < 24
            · obtain ⟨hX, hY⟩ := kPlace_lt k
              have HE := Lib.hid (rWalk_succ A k)
              have HQ := Lib.hid (kPlace_succ k)
              generalize (kPlace k).1 = X at *
              generalize (kPlace k).2 = Y at *
              have a0 := Hk.cell 0 rfl (u64_get (k := X % 5 + 5 * (Y % 5)) (by rw [HAL.out]; omega))
              obtain ⟨u, hu⟩ : ∃ u, ((rWalk A k).map u64v)[Y % 5 + 5 * ((2 * X + 3 * Y) % 5)]? = some u := ⟨_, u64_get (by rw [rWalk_length]; omega)⟩
              have b0 := Hk.cell 3 rfl hu
              have bf := Hk.free 3 rfl (Y % 5 + 5 * ((2 * X + 3 * Y) % 5))
              clear hu
              go_wp2_with fail
              refine (lane_i _ _ _ (by omega) (by omega) (by omega) (by omega)).mono ?_
              rintro e w' ⟨rfl, rfl⟩
              go_wp2_with fail
              refine (lane_i _ _ _ (by omega) (by omega) (by omega) (by omega)).mono ?_
              rintro e w' ⟨rfl, rfl⟩
              go_wp2_with fail
              refine (turnr_at _ _ ((k + 1) * (k + 2) / 2) (tri_eq k hlt) (tri_le k hlt) _).mono ?_
              rintro e w' ⟨rfl, q, rfl⟩
              go_wp2
              go_roundw
              case rel => exact ⟨k + 1, by omega, by go_num, by rw [HQ.out], by rw [HQ.out]; go_num, by rw [HE.out]; exact by have h := ((Hk.drewN q).store 3 rfl (o := Y % 5 + 5 * ((2 * X + 3 * Y) % 5)) (u := u64v (rotl (at64 A (X % 5 + 5 * (Y % 5))) ((k + 1) * (k + 2) / 2)))).upd_mk (by simp); rw [u64_set] at h; exact h⟩
              case measure => simp [intOf]; omega
            · obtain rfl : k = 24 := by omega
              rw [show ((24 : Nat) : Int) = 24 from rfl]
              have HBL := Lib.hid (rWalk_length A 24)
              generalize hB : rWalk A 24 = B at *
              have HB := Lib.hid hB
              clear hB
              go_wp2
              go_loopw [16] (fun i wr => ∃ k : Nat, k ≤ 5 ∧ i = .int .i64 k ∧ St w [] wr (lay [.blk g1 92 ((rChi B A k).map u64v), .blk g2 92 ((List.replicate 25 0).map u64v), .blk g3 110 (P.map u64v), .blk g4 92 (B.map u64v)])) (fun i _ => 5 - (intOf i).toNat)
              case atStart => exact ⟨0, by omega, rfl, by rw [rChi_zero]; exact Hk⟩
              case round =>
                clear Hk
                obtain ⟨x, hx, rfl, Hx⟩ := hrel
                by_cases hlt : x < 5
                · have HE := Lib.hid (rChi_succ B A x)
                  have HL : Hid ((rChi B A x).length = 25) := by have := rChi_length B A x; rw [HAL.out] at this; exact this
                  generalize rChi B A x = a at *
                  have hx1 : (x : Int) < 5 := by omega
                  go_wp2
                  go_loopw [17] (fun j wr => ∃ y : Nat, y ≤ 5 ∧ j = .int .i64 y ∧ St w [] wr (lay [.blk g1 92 ((rChiY B x a y).map u64v), .blk g2 92 ((List.replicate 25 0).map u64v), .blk g3 110 (P.map u64v), .blk g4 92 (B.map u64v)])) (fun j _ => 5 - (intOf j).toNat)
                  case atStart => exact ⟨0, by omega, rfl, Hx⟩
                  case round =>
                    clear Hx
                    obtain ⟨y, hy, rfl, Hy⟩ := hrel
                    by_cases hly : y < 5
                    · have hy1 : (y : Int) < 5 := by omega
                      obtain ⟨u, hu⟩ : ∃ u, ((rChiY B x a y).map u64v)[x % 5 + 5 * (y % 5)]? = some u := ⟨_, u64_get (by rw [rChiY_length, HL.out]; omega)⟩
                      have a0 := Hy.cell 0 rfl hu
                      have af := Hy.free 0 rfl (x % 5 + 5 * (y % 5))
                      have b0 := Hy.cell 3 rfl (u64_get (k := x % 5 + 5 * (y % 5)) (by rw [HBL.out]; omega))
                      have b1 := Hy.cell 3 rfl (u64_get (k := (x + 1) % 5 + 5 * (y % 5)) (by rw [HBL.out]; omega))
                      have b2 := Hy.cell 3 rfl (u64_get (k := (x + 2) % 5 + 5 * (y % 5)) (by rw [HBL.out]; omega))
                      clear hu
                      go_wp2
                      refine region_quiet_tail 23 (by kernel_rfl) (by kernel_rfl) ?_
                      simp only [List.take_succ_cons, List.take_zero, List.drop_succ_cons, List.drop_zero]
                      repeat (go_big_quiet_step ((go_at_call 72; exact lane_q _ _ _ _ (by omega) (by omega) (by omega) (by omega))))
                      refine wpQuiet_nil ?_
                      intro nq
                      go_wp2
                      go_roundw
                      case rel => exact ⟨y + 1, by omega, by go_num, by rw [andNot64, xor64]; exact by have h := ((Hy.drewN nq).store 0 rfl (o := x % 5 + 5 * (y % 5)) (u := u64v (at64 B (x % 5 + 5 * (y % 5)) ^^^ (~~~(at64 B ((x + 1) % 5 + 5 * (y % 5))) &&& at64 B ((x + 2) % 5 + 5 * (y % 5)))))).upd_mk (by simp); rw [u64_set] at h; exact h⟩
                      case measure => simp [intOf]; omega
                    · obtain rfl : y = 5 := by omega
                      rw [show ((5 : Nat) : Int) = 5 from rfl]
                      rw [← HE.out] at Hy
                      go_wp2
                      go_roundw
                      case rel => exact ⟨x + 1, by omega, by go_num, Hy⟩
                      case measure => simp [intOf]; omega
                · obtain rfl : x = 5 := by omega
                  rw [show ((5 : Nat) : Int) = 5 from rfl]
                  have HD : Hid (rRound s c = (rChi B A 5).set 0 (at64 (rChi B A 5) 0 ^^^ c)) := by
                    have h := rRound_def s c
                    rw [HP.out, HA.out, HB.out] at h
                    exact h
                  have HDL : Hid ((rChi B A 5).length = 25) := by have := rChi_length B A 5; rw [HAL.out] at this; exact this
                  generalize rChi B A 5 = D at *
                  have a0 := Hx.cell 0 rfl (u64_get (k := 0) (by rw [HDL.out]; omega))
                  have af := Hx.free 0 rfl 0
                  have H5 := (Hx.store 0 rfl (o := 0) (u := u64v (at64 D 0 ^^^ c))).upd_mk (by simp)
                  rw [u64_set, ← HD.out] at H5
                  have HRL : Hid ((rRound s c).length = 25) := by rw [HD.out, List.length_set, HDL.out]; rfl
                  go_wp2_with (first | (refine wpList_load_row rfl 92 (.tmp 2) rfl g1 rfl _ _ _ _ (by rw [xor64]; exact H5.blk 0 rfl) Try.underlying92 rfl (by rw [state24_size]; simp [HRL.out]) ?_) | (refine wpList_store_mid rfl 92 (.tmp 4) (.tmp 139) rfl g2 0 _ rfl rfl (by rw [xor64]; exact there_eq (H5.there 1 rfl) (by simp [HRL.out])) (by rw [state24_size]; simp [HRL.out]) (all_oneCell_toArray (u64_one _)) ?_))
                  rw [xor64]
                  have H6 := (H5.storeAll 1 rfl (vs := (rRound s c).map u64v) (by simp [HRL.out])).upd_mk (by simp)
                  exact bodyPost_ret (results_cell_row rfl _ _ g2 92 ((rRound s c).map u64v).toArray _ _ rfl (H6.blk 1 rfl) Try.underlying92 rfl (by rw [state24_size]; simp [HRL.out])) rfl ⟨rfl, H6.below⟩
end Go.Proofs.Ytgjlclihgpahbaa

namespace Go.Proofs.Ytgjlclihgpahbaa
open Go.RowKit
set_option linter.unusedVariables false

/-- only draws lie between -/
def Drawn (w w' : World) : Prop := ∃ q, w' = w.drewN q
theorem Drawn.more {w w' : World} (h : Drawn w w') (n : Nat) : Drawn w (w'.drewN n) := by
  obtain ⟨q, rfl⟩ := h; exact ⟨q + n, by simp⟩
def cStep (r : Nat) : Nat := if 256 ≤ 2 * r then (2 * r - 256) ^^^ 113 else 2 * r
def cReg (n : Nat) : Nat := iter (fun r _ => cStep r) 1 n
theorem cStep_lt (r : Nat) (h : r < 256) : cStep r < 256 := by
  have H : ∀ n : Fin 256, cStep n.val < 256 := by decide +kernel
  exact H ⟨r, h⟩
theorem cReg_lt (n : Nat) : cReg n < 256 := by
  induction n with
  | zero => decide
  | succ n ih => exact cStep_lt _ ih
def cBit (n : Nat) : UInt64 := UInt64.ofNat (cReg n % 2)
theorem cBit_toNat (n : Nat) : ((cBit n).toNat : Int) = ((cReg n % 2 : Nat) : Int) := by
  unfold cBit; rw [UInt64.toNat_ofNat', Nat.mod_eq_of_lt (by omega)]
theorem cReg_succ (n : Nat) : cReg (n + 1) = cStep (cReg n) := rfl
theorem cReg_zero : cReg 0 = 1 := rfl
def rConTo (i k : Nat) : UInt64 := iter (fun x j => x + (cBit (j + 7 * i) <<< UInt64.ofNat (2 ^ j - 1))) 0 k
theorem rCon_eq (i : Nat) (h : i < 24) : rConTo i 7 = at64 kConsts i := by
  have H : ∀ n : Fin 24, rConTo n.val 7 = at64 kConsts n.val := by decide +kernel
  exact H ⟨i, h⟩
theorem rConTo_succ (i k : Nat) : rConTo i (k + 1) = rConTo i k + (cBit (k + 7 * i) <<< UInt64.ofNat (2 ^ k - 1)) := rfl
theorem rConTo_zero (i : Nat) : rConTo i 0 = 0 := rfl
theorem add64 (x y : UInt64) : IntKind.u64.wrap ((x.toNat : Int) + (y.toNat : Int)) = ((x + y).toNat : Int) := by
  rw [IntKind.wrap_u64, UInt64.toNat_add]; rfl
theorem shl_c (n k : Nat) (hk : k < 7) : IntKind.u64.wrap (((cBit n).toNat : Int) * 2 ^ min (IntKind.u64.wrap (IntKind.u64.wrap (2 ^ k) - 1)).toNat 64) = ((cBit n <<< UInt64.ofNat (2 ^ k - 1)).toNat : Int) := by
  have H : ∀ b : Fin 2, ∀ k : Fin 7, IntKind.u64.wrap (((UInt64.ofNat b.val).toNat : Int) * 2 ^ min (IntKind.u64.wrap (IntKind.u64.wrap (2 ^ k.val) - 1)).toNat 64) = ((UInt64.ofNat b.val <<< UInt64.ofNat (2 ^ k.val - 1)).toNat : Int) := by decide +kernel
  exact H ⟨cReg n % 2, Nat.mod_lt _ (by omega)⟩ ⟨k, hk⟩
attribute [local irreducible] cReg rConTo cBit

set_option maxRecDepth 100000 in
set_option maxHeartbeats 400000 in
theorem c_any (n : Nat) (hn : n ≤ 1000) (w : World) :
    Calls Try.prog 74 #[.int .i64 (n : Int)] w fun e w' => e = .returned (.int .u64 ((cBit n).toNat : Int)) ∧ ∃ q, w' = w.drewN q := by
  have HB := Lib.hid (cBit_toNat n)
  go_enter Try.func74, Try.ntmps74
  go_wp2
  go_loopw [3, 4] (fun r i wr => ∃ k q : Nat, k ≤ n ∧ i = .int .i64 k ∧ r = .int .i64 (cReg k : Nat) ∧ wr = w.drewN q) (fun _ i _ => n - (intOf i).toNat)
  case atStart => exact ⟨0, 0, by omega, rfl, by rw [cReg_zero]; rfl, rfl⟩
  case round =>
    obtain ⟨k, q, hk, rfl, rfl, rfl⟩ := hrel
    by_cases hlt : k < n
    · have hr : cReg k ≤ 255 := by have := cReg_lt k; omega
      have HE := Lib.hid (cReg_succ k)
      generalize cReg k = r at *
      by_cases h2 : 256 ≤ 2 * r
      · have HX : Hid (bits .xor .i64 (2 * (r : Int) - 256) 113 = ((cReg (k + 1) : Nat) : Int)) := by
          rw [HE.out]; unfold cStep; rw [if_pos h2]
          have H : ∀ m : Fin 256, bits .xor .i64 ((m.val : Int)) 113 = ((m.val ^^^ 113 : Nat) : Int) := by decide +kernel
          have h := H ⟨2 * r - 256, by omega⟩
          simp only at h
          rw [← h, show ((2 * r - 256 : Nat) : Int) = 2 * (r : Int) - 256 by omega]; rfl
        go_wp2
        go_roundw
        case rel => exact ⟨k + 1, q, by omega, by go_num, by rw [HX.out], rfl⟩
        case measure => simp [intOf]; omega
      · have HX : Hid (cReg (k + 1) = 2 * r) := by rw [HE.out]; unfold cStep; rw [if_neg h2]; rfl
        go_wp2
        go_roundw
        case rel => exact ⟨k + 1, q, by omega, by go_num, by rw [HX.out]; go_num, rfl⟩
        case measure => simp [intOf]; omega
    · obtain rfl : k = n := by omega
      have hr : cReg k ≤ 255 := by have := cReg_lt k; omega
      go_wp2
      go_ret
      refine ⟨ret_int ?_, q, rfl⟩
      rw [HB.out]
      omega
theorem c_q (n : Nat) (m : Int) (hm : m = (n : Int)) (hn : n ≤ 1000) (w : World) (q : Nat) :
    Calls Try.prog 74 #[.int .i64 m] (w.drewN q) fun e w' => e = .returned (.int .u64 ((cBit n).toNat : Int)) ∧ ∃ q, w' = w.drewN q := by
  subst hm
  exact (c_any n hn _).mono fun _ _ ⟨h, m, h'⟩ => ⟨h, q + m, by rw [h', World.drewN_drewN]⟩

set_option maxHeartbeats 400000 in
theorem constant_any (i : Nat) (hi : i < 24) (w : World) :
    Calls Try.prog 71 #[.int .i64 (i : Int)] w fun e w' => e = .returned (.int .u64 ((at64 kConsts i).toNat : Int)) ∧ ∃ q, w' = w.drewN q := by
  have HB := Lib.hid (rCon_eq i hi)
  have hi' : i ≤ 23 := by omega
  clear hi
  go_enter Try.func71, Try.ntmps71
  go_wp2
  go_loopw [3, 4] (fun x j wr => ∃ k : Nat, k ≤ 7 ∧ j = .int .i64 k ∧ x = .int .u64 ((rConTo i k).toNat : Int) ∧ Drawn w wr) (fun _ j _ => 7 - (intOf j).toNat)
  case atStart => exact ⟨0, by omega, rfl, by rw [rConTo_zero]; rfl, ⟨0, rfl⟩⟩
  case round =>
    obtain ⟨k, hk, rfl, rfl, hw⟩ := hrel
    by_cases hlt : k < 7
    · have HE := Lib.hid (rConTo_succ i k)
      have hk6 : (k : Int) ≤ 6 := by omega
      have hc := fun w q => c_q (k + 7 * i) ((k : Int) + 7 * (i : Int)) (by omega) (by omega) w q
      go_wp2
      have s1 : IntKind.i64.wrap (7 * (i : Int)) = 7 * (i : Int) := IntWalk.i64_in _ (by omega)
      have s2 : IntKind.i64.wrap ((k : Int) + 7 * (i : Int)) = (k : Int) + 7 * (i : Int) := IntWalk.i64_in _ (by omega)
      go_quiet ((go_at_call 74; exact hc _ _))
      clear hc s1 s2
      go_wp2
      go_roundw
      case rel => exact ⟨k + 1, by omega, by go_num, by rw [shl_c _ _ hlt, add64, ← HE.out], hw.more nq⟩
      case measure => simp [intOf]; omega
    · obtain rfl : k = 7 := by omega
      go_wp2
      go_ret
      exact ⟨ret_int (by rw [HB.out]), hw⟩
end Go.Proofs.Ytgjlclihgpahbaa

namespace Go.Proofs.Ytgjlclihgpahbaa
open Go.RowKit
set_option linter.unusedVariables false

theorem run_equalIn_ints {P : Program} (d : Nat) (t e : TypeId) (len : Nat) (k k' : IntKind) (xs ys : List Int) (ht : P.underlying t = some (.array len e)) (he : P.underlying e = some (.int k')) (hs : (P.info? e).map (·.size) = some 1)
    (hx : xs.length = len) (hy : ys.length = len) (w : World) :
    (Op.equalIn (d + 2) t (.agg (xs.map (Value.int k)).toArray) (.agg (ys.map (Value.int k)).toArray)).run P w = .ok (decide (xs = ys)) w := by
  have hag : ∀ w, (isAgg e).run P w = .ok false w := fun w => by simp [isAgg, run_underlying he]
  have hsz : ∀ w, (sizeOf e).run P w = .ok 1 w := fun w => by
    cases hi : P.info? e with
    | none => simp [hi] at hs
    | some i => simp [hi] at hs; simp [sizeOf, typeInfo, hi, hs]
  rw [Op.equalIn]
  simp only [Sem.run_bind, run_underlying ht, Result.andThen_ok, hsz]
  rw [Std.Legacy.Range.forIn_eq_forIn_range']
  have hp : ∀ (zs : List Int) (i : Nat) (h : i < zs.length) (w : World), (part e (zs.map (Value.int k)).toArray (i * 1)).run P w = .ok (.int k zs[i]) w := fun zs i h w => by
    simp [part, hag, h]
  have key : ∀ (n i : Nat) (w : World), i + n = len →
      (forIn (m := Sem) (List.range' i n 1) ((none, ()) : Option Bool × Unit) fun i __s => do
            let a ← part e (List.map (Value.int k) xs).toArray (i * 1)
            let b ← part e (List.map (Value.int k) ys).toArray (i * 1)
            let r ← Op.equalIn (d + 1) e a b
            if (!r) = true then pure (ForInStep.done (some false, ())) else pure (ForInStep.yield (none, ()))).run P w =
        .ok (if xs.drop i = ys.drop i then (none, ()) else (some false, ())) w := by
    intro n
    induction n with
    | zero =>
      intro i w h
      rw [List.drop_of_length_le (by omega), List.drop_of_length_le (by omega)]
      simp
    | succ n ih =>
      intro i w h
      have h1 : i < xs.length := by omega
      have h2 : i < ys.length := by omega
      rw [List.range'_succ, List.forIn_cons]
      simp only [Sem.run_bind, hp xs i h1, hp ys i h2, Result.andThen_ok, run_equalIn_int w d e k k' _ _ he]
      rw [List.drop_eq_getElem_cons h1, List.drop_eq_getElem_cons h2]
      by_cases he' : xs[i] = ys[i]
      · simp only [he', beq_self_eq_true, Bool.not_true, Bool.false_eq_true, if_false, Sem.run_pure, Result.andThen_ok, List.cons.injEq, true_and]
        exact ih (i + 1) w (by omega)
      · have hb : (xs[i] == ys[i]) = false := by simpa using he'
        simp [hb]
        intro hd
        rw [List.drop_eq_getElem_cons h1, List.drop_eq_getElem_cons h2] at hd
        injection hd with h3
        exact he' h3
  have h0 := key len 0 w (by omega)
  simp only [List.drop_zero] at h0
  have hr : List.range' [:len].start [:len].size [:len].step = List.range' 0 len 1 := by simp [Std.Legacy.Range.size]
  rw [hr, h0]
  by_cases h : xs = ys <;> simp [h]
end Go.Proofs.Ytgjlclihgpahbaa

namespace Go.Proofs.Ytgjlclihgpahbaa
open Go.RowKit
set_option linter.unusedVariables false
set_option maxRecDepth 100000

/-- the first 200 bytes, noughts behind them -/
def wide (p : List UInt8) : List UInt8 := p.take 200 ++ List.replicate (200 - p.length) 0
theorem wide_length (p : List UInt8) : (wide p).length = 200 := by unfold wide; simp; omega
def wideTo (p : List UInt8) (k : Nat) : List UInt8 := p.take k ++ List.replicate (200 - k) 0
theorem wideTo_length (p : List UInt8) (k : Nat) (hk : k ≤ 200) (hp : k ≤ p.length) : (wideTo p k).length = 200 := by unfold wideTo; simp; omega
theorem wideTo_succ (p : List UInt8) (k : Nat) (x : UInt8) (hk : k < 200) (hx : p[k]? = some x) : (wideTo p k).set k x = wideTo p (k + 1) := by
  unfold wideTo
  exact zeros_step hk hx
theorem wideTo_zero (p : List UInt8) : (wideTo p 0).map vb = zb 200 := by
  unfold wideTo zb; rw [List.take_zero, List.nil_append, List.map_replicate]; rfl
theorem wideTo_end (p : List UInt8) (k : Nat) (h : k = p.length ∨ k = 200) (hk : k ≤ 200) (hp : k ≤ p.length) : wideTo p k = wide p := by
  unfold wideTo wide
  rcases h with rfl | rfl
  · rw [List.take_of_length_le (by omega), List.take_of_length_le (by omega)]
  · rw [show 200 - 200 = 200 - p.length by omega]
theorem eq_u64 (t : TypeId) (len : Nat) (ht : Try.prog.underlying t = some (.array len 91)) (xs ys : List UInt64) (hx : xs.length = len) (hy : ys.length = len) (w : World) :
    (Op.equalIn 10000 t (.agg (xs.map u64v).toArray) (.agg (ys.map u64v).toArray)).run Try.prog w = .ok (decide (xs = ys)) w := by
  have h := run_equalIn_ints (P := Try.prog) 9998 t _ len .u64 .u64 (xs.map fun x => (x.toNat : Int)) (ys.map fun x => (x.toNat : Int)) ht Try.underlying91 u64_size (by simpa) (by simpa) w
  rw [List.map_map, List.map_map] at h
  have e : decide ((xs.map fun x => (x.toNat : Int)) = ys.map fun x => (x.toNat : Int)) = decide (xs = ys) := by
    congr 1
    exact propext (List.map_inj_right fun a b h => UInt64.toNat_inj.1 (by omega))
  rw [e] at h
  exact h
theorem eq_u8 (t : TypeId) (len : Nat) (ht : Try.prog.underlying t = some (.array len 5)) (xs ys : List UInt8) (hx : xs.length = len) (hy : ys.length = len) (w : World) :
    (Op.equalIn 10000 t (.agg (xs.map vb).toArray) (.agg (ys.map vb).toArray)).run Try.prog w = .ok (decide (xs = ys)) w := by
  have h := run_equalIn_ints (P := Try.prog) 9998 t _ len .u8 .u8 (xs.map fun x => (x.toNat : Int)) (ys.map fun x => (x.toNat : Int)) ht Try.underlying5 u8_size (by simpa) (by simpa) w
  rw [List.map_map, List.map_map] at h
  have e : decide ((xs.map fun x => (x.toNat : Int)) = ys.map fun x => (x.toNat : Int)) = decide (xs = ys) := by
    congr 1
    exact propext (List.map_inj_right fun a b h => UInt8.toNat_inj.1 (by omega))
  rw [e] at h
  exact h

end Go.Proofs.Ytgjlclihgpahbaa

namespace Go.Proofs.Ytgjlclihgpahbaa
open Go.RowKit
set_option linter.unusedVariables false

def kZero : List UInt64 := List.replicate 25 0
def kOne : List UInt64 := kPerm kZero
def kTwo : List UInt64 := kPerm kOne
theorem kOne_length : kOne.length = 25 := kPermTo_length kZero 24
theorem kTwo_length : kTwo.length = 25 := by unfold kTwo kPerm; rw [kPermTo_length, kOne_length]
theorem kOne_0 : at64 kOne 0 = 0xf1258f7940e1dde7 := by decide +kernel
theorem kOne_1 : at64 kOne 1 = 0x84d5ccf933c0478a := by decide +kernel
theorem kOne_24 : at64 kOne 24 = 0xeaf1ff7b5ceca249 := by decide +kernel
theorem kOne_eq : kOne = [17376452488221285863, 9571781953733019530, 15391093639620504046, 13624874521033984333, 10027350355371872343, 18417369716475457492, 10448040663659726788, 10113917136857017974, 12479658147685402012, 3500241080921619556, 16959053435453822517, 12224711289652453635, 9342009439668884831, 4879704952849025062, 140226327413610143, 424854978622500449, 7259519967065370866, 7004910057750291985, 13293599522548616907, 10105770293752443592, 10668034807192757780, 1747952066141424100, 1654286879329379778, 8500057116360352059, 16929593379567477321] := by decide +kernel
theorem kTwo_0 : at64 kTwo 0 = 0x2d5c954df96ecb3c := by
  unfold kTwo; rw [kOne_eq]; decide +kernel
def kTwin : List UInt64 := [0, 0x0102, 0, 0, 0, 0, 0, 0, 0, 0, 0, 0, 0, 0, 0, 0, 0, 0, 0, 0, 0, 0, 0, 0, 0]
theorem kTwin_8 : (kBytes kTwin)[8]? = some 2 := by decide +kernel
theorem kTwin_9 : (kBytes kTwin)[9]? = some 1 := by decide +kernel
theorem kTwin_10 : (kBytes kTwin)[10]? = some 0 := by decide +kernel
theorem kBytes_length (s : List UInt64) (h : s.length = 25) : (kBytes s).length = 200 := by unfold kBytes; rw [flat_len, h]
theorem kPerm_length (s : List UInt64) : (kPerm s).length = s.length := kPermTo_length s 24
attribute [local irreducible] kPerm kBytes kOne kTwo

end Go.Proofs.Ytgjlclihgpahbaa

namespace Go.Proofs.Ytgjlclihgpahbaa
theorem rotN_bit (W x n i : Nat) (hn : n < W) (hx : x < 2 ^ W) : (rotN W x n).testBit i = (decide (i < W) && x.testBit (if n ≤ i then i - n else W - n + i)) := by
  rw [← rotN_or W x n hn hx, Nat.testBit_or, Nat.testBit_mod_two_pow, Nat.testBit_div_two_pow, Nat.mul_comm x, Nat.testBit_two_pow_mul]
  by_cases hi : i < W
  · by_cases hni : n ≤ i
    · have h2 : x.testBit (i + (W - n)) = false := Nat.testBit_lt_two_pow (Nat.lt_of_lt_of_le hx (Nat.pow_le_pow_right (by omega) (by omega)))
      simp [hi, hni, h2]
    · have h3 : i + (W - n) = W - n + i := by omega
      simp [hi, hni, h3]
  · have h2 : x.testBit (i + (W - n)) = false := Nat.testBit_lt_two_pow (Nat.lt_of_lt_of_le hx (Nat.pow_le_pow_right (by omega) (by omega)))
    simp [hi, h2]
theorem rotN_rotN (W x a b : Nat) (ha : a < W) (hb : b < W) (hx : x < 2 ^ W) : rotN W (rotN W x a) b = rotN W x ((a + b) % W) := by
  apply Nat.eq_of_testBit_eq
  intro i
  have hc : (a + b) % W < W := Nat.mod_lt _ (by omega)
  rw [rotN_bit W _ b i hb (rotN_lt W x a ha hx), rotN_bit W x _ i hc hx]
  by_cases hi : i < W
  · simp only [hi, decide_true, Bool.true_and]
    rw [rotN_bit W x a _ ha hx]
    have hlt : (if b ≤ i then i - b else W - b + i) < W := by split <;> omega
    simp only [hlt, decide_true, Bool.true_and]
    congr 1
    have hm : (a + b) % W = if a + b < W then a + b else a + b - W := by
      split
      · rw [Nat.mod_eq_of_lt (by omega)]
      · rw [Nat.mod_eq_sub_mod (by omega), Nat.mod_eq_of_lt (by omega)]
    rw [hm]
    split <;> split <;> split <;> split <;> omega
  · simp [hi]
theorem rotN_zero (W x : Nat) (hx : x < 2 ^ W) : rotN W x 0 = x := by
  unfold rotN
  simp [Nat.mod_eq_of_lt hx, Nat.div_eq_of_lt hx]
theorem emod_add (W : Nat) (hW : 0 < W) (n m : Int) : ((n % W).toNat + (m % W).toNat) % W = ((n + m) % W).toNat := by
  have h1 := Int.emod_nonneg n (show (W : Int) ≠ 0 by omega)
  have h2 := Int.emod_nonneg m (show (W : Int) ≠ 0 by omega)
  have h3 := Int.emod_nonneg (n + m) (show (W : Int) ≠ 0 by omega)
  apply Int.ofNat_inj.1
  rw [Int.natCast_emod, Int.natCast_add, Int.toNat_of_nonneg h1, Int.toNat_of_nonneg h2, Int.toNat_of_nonneg h3, ← Int.add_emod]
end Go.Proofs.Ytgjlclihgpahbaa
namespace Go.Proofs.Ytgjlclihgpahbaa
theorem byteAt_nat {l : List UInt8} {k : Nat} {b : UInt8} (h : l[k]? = some b) : byteAt l (k : Int) = b.toNat := by
  obtain ⟨hk, rfl⟩ := List.getElem?_eq_some_iff.1 h
  unfold byteAt
  rw [if_pos (by omega)]
  simp [List.getElem?_eq_getElem hk]
theorem leTo_leL (x N : Nat) (k : Nat) (hk : k ≤ N) : leTo (leL N x) 0 k = x % 256 ^ k := by
  induction k with
  | zero => simp [leTo, Nat.mod_one]
  | succ k ih =>
    unfold leTo
    rw [ih (by omega), Int.zero_add, byteAt_nat (leL_get (show k < N by omega)), Nat.pow_succ, Nat.mod_mul, UInt8.toNat_ofNat', Nat.mul_comm (256 ^ k)]
theorem beTo_beL (x N : Nat) (hx : x < 256 ^ N) (k : Nat) (hk : k ≤ N) : beTo (beL N x) 0 k = x / 256 ^ (N - k) := by
  induction k with
  | zero => simp [beTo, Nat.div_eq_of_lt hx]
  | succ k ih =>
    unfold beTo
    rw [ih (by omega), Int.zero_add, byteAt_nat (beL_get (show k < N by omega)), UInt8.toNat_ofNat']
    have e : N - k = (N - (k + 1)) + 1 := by omega
    have e2 : N - 1 - k = N - (k + 1) := by omega
    rw [e2, e, Nat.pow_succ, ← Nat.div_div_eq_div_mul]
    omega
theorem beTo_back (x N : Nat) (hx : x < 256 ^ N) : beTo (beL N x) 0 N = x := by rw [beTo_beL x N hx N (Nat.le_refl _), Nat.sub_self]; simp
theorem leTo_back (x N : Nat) (hx : x < 256 ^ N) : leTo (leL N x) 0 N = x := by rw [leTo_leL x N N (Nat.le_refl _), Nat.mod_eq_of_lt hx]
end Go.Proofs.Ytgjlclihgpahbaa

namespace Go.Proofs.Ytgjlclihgpahbaa
/- theta: columns -/
/-- f at a place, one s columns ahead, one t columns ahead and r bits below -/
def tri (s t r : Int) (f : Int → Int → Bool) : Int → Int → Bool := fun x i => f x i ^^ (f (x - s) i ^^ f (x - t) (i - r))
theorem tri_sq (s t r : Int) (f : Int → Int → Bool) : tri s t r (tri s t r f) = tri (2 * s) (2 * t) (2 * r) f := by
  funext x i
  simp only [tri]
  rw [show x - t - s = x - s - t by omega, show x - 2 * s = x - s - s by omega, show x - 2 * t = x - t - t by omega, show i - 2 * r = i - r - r by omega]
  generalize f x i = a; generalize f (x - s) i = b; generalize f (x - t) (i - r) = c; generalize f (x - s - s) i = d; generalize f (x - s - t) (i - r) = e; generalize f (x - t - t) (i - r - r) = g
  cases a <;> cases b <;> cases c <;> cases d <;> cases e <;> cases g <;> rfl
theorem tri_zero (s t r : Int) : tri s t r (fun _ _ => false) = fun _ _ => false := by funext x i; simp [tri]
theorem tri_dbl {s t r : Int} {f : Int → Int → Bool} (h : tri s t r f = fun _ _ => false) : tri (2 * s) (2 * t) (2 * r) f = fun _ _ => false := by
  rw [← tri_sq, h, tri_zero]
theorem tri_kernel (f : Int → Int → Bool) (p5 : ∀ x i, f (x + 5) i = f x i) (p64 : ∀ x i, f x (i + 64) = f x i) (h : tri 1 (-1) 1 f = fun _ _ => false) : f = fun _ _ => false := by
  have h6 := tri_dbl (tri_dbl (tri_dbl (tri_dbl (tri_dbl (tri_dbl h)))))
  have m5 : ∀ x i, f (x - 5) i = f x i := fun x i => by rw [← p5 (x - 5) i]; congr 1; omega
  have q : ∀ x i, (f x i ^^ (f (x + 1) i ^^ f (x - 1) i)) = false := fun x i => by
    have h7 := congrFun (congrFun h6 x) i
    simp only [tri] at h7
    have e1 : ∀ (n : Nat) (x i : Int), f (x - 5 * n) i = f x i := by
      intro n
      induction n with
      | zero => intro x i; simp
      | succ n ih => intro x i; rw [show x - 5 * ((n + 1 : Nat) : Int) = (x - 5) - 5 * (n : Int) by omega, ih, m5]
    have e2 : f (x - 2 * (2 * (2 * (2 * (2 * (2 * 1)))))) i = f (x + 1) i := by
      rw [← e1 13 (x + 1) i]; congr 1; omega
    have e3 : f (x - 2 * (2 * (2 * (2 * (2 * (2 * -1)))))) (i - 2 * (2 * (2 * (2 * (2 * (2 * 1)))))) = f (x - 1) i := by
      rw [show x - 2 * (2 * (2 * (2 * (2 * (2 * (-1 : Int)))))) = x + 64 by omega, ← e1 13 (x + 64), ← p64]
      congr 1 <;> omega
    rw [e2, e3] at h7
    exact h7
  funext x i
  have a1 := q x i
  have a2 := q (x + 1) i
  have a3 := q (x - 1) i
  have a4 := q (x + 2) i
  have a5 := q (x - 2) i
  rw [show x + 1 - 1 = x by omega, show x + 1 + 1 = x + 2 by omega] at a2
  rw [show x - 1 - 1 = x - 2 by omega, show x - 1 + 1 = x by omega] at a3
  rw [show x + 2 - 1 = x + 1 by omega, show f (x + 2 + 1) i = f (x - 2) i from by rw [← m5]; congr 1; omega] at a4
  rw [show x - 2 + 1 = x - 1 by omega, show f (x - 2 - 1) i = f (x + 2) i from by rw [← p5]; congr 1; omega] at a5
  revert a1 a2 a3 a4 a5
  generalize f x i = a; generalize f (x + 1) i = b; generalize f (x - 1) i = c; generalize f (x + 2) i = d; generalize f (x - 2) i = e
  cases a <;> cases b <;> cases c <;> cases d <;> cases e <;> simp
end Go.Proofs.Ytgjlclihgpahbaa

namespace Go.Proofs.Ytgjlclihgpahbaa
set_option linter.unusedVariables false
def bt (x : UInt64) (i : Nat) : Bool := x.toNat.testBit i
theorem bt_ext {x y : UInt64} (h : ∀ i, i < 64 → bt x i = bt y i) : x = y := by
  apply UInt64.toNat_inj.mp
  apply Nat.eq_of_testBit_eq
  intro i
  by_cases hi : i < 64
  · exact h i hi
  · have h2 : 2 ^ 64 ≤ 2 ^ i := Nat.pow_le_pow_right (by omega) (by omega)
    rw [Nat.testBit_lt_two_pow (Nat.lt_of_lt_of_le x.toNat_lt h2), Nat.testBit_lt_two_pow (Nat.lt_of_lt_of_le y.toNat_lt h2)]
theorem bt_xor (x y : UInt64) (i : Nat) : bt (x ^^^ y) i = (bt x i ^^ bt y i) := by simp [bt]
theorem bt_and (x y : UInt64) (i : Nat) : bt (x &&& y) i = (bt x i && bt y i) := by simp [bt]
theorem bt_zero (i : Nat) : bt 0 i = false := by simp [bt]
theorem bt_not (x : UInt64) (i : Nat) (h : i < 64) : bt (~~~x) i = !bt x i := by
  unfold bt
  have e : (~~~x).toNat = 2 ^ 64 - 1 - x.toNat := by
    have h1 := UInt64.toNat_not x
    simp at h1 ⊢
  rw [e, show 2 ^ 64 - 1 - x.toNat = 2 ^ 64 - (x.toNat + 1) by omega, Nat.testBit_two_pow_sub_succ x.toNat_lt]
  simp [h]
theorem bt_rotl (x : UInt64) (n i : Nat) (hi : i < 64) : bt (rotl x n) i = bt x (if n % 64 ≤ i then i - n % 64 else 64 - n % 64 + i) := by
  unfold bt
  rw [rotl_toNat, rotN_bit 64 _ _ _ (Nat.mod_lt _ (by omega)) x.toNat_lt]
  simp [hi]
theorem rotl_inj {x y : UInt64} {n : Nat} (h : rotl x n = rotl y n) : x = y := by
  apply bt_ext
  intro i hi
  have hn : n % 64 < 64 := Nat.mod_lt _ (by omega)
  by_cases hi2 : i + n % 64 < 64
  · have h1 := bt_rotl x n (i + n % 64) hi2
    rw [h, bt_rotl y n (i + n % 64) hi2, if_pos (by omega), Nat.add_sub_cancel] at h1
    exact h1.symm
  · have h1 := bt_rotl x n (i + n % 64 - 64) (by omega)
    rw [h, bt_rotl y n (i + n % 64 - 64) (by omega), if_neg (by omega), show 64 - n % 64 + (i + n % 64 - 64) = i by omega] at h1
    exact h1.symm

theorem five (c d : Nat → UInt64) (h : ∀ x, x < 5 → c x ^^^ (c ((x + 4) % 5) ^^^ rotl (c ((x + 1) % 5)) 1) = d x ^^^ (d ((x + 4) % 5) ^^^ rotl (d ((x + 1) % 5)) 1)) (x : Nat) (hx : x < 5) : c x = d x := by
  have key := tri_kernel (fun x i => bt (c (x % 5).toNat) (i % 64).toNat ^^ bt (d (x % 5).toNat) (i % 64).toNat)
    (fun x i => by simp only [show (x + 5) % 5 = x % 5 by omega]) (fun x i => by simp only [show (i + 64) % 64 = i % 64 by omega]) (by
    funext x i
    simp only [tri]
    have hx5 : (x % 5).toNat < 5 := by omega
    have h1 := h (x % 5).toNat hx5
    have hi : (i % 64).toNat < 64 := by omega
    have h2 := congrArg (fun z => bt z (i % 64).toNat) h1
    simp only [bt_xor, bt_rotl _ _ _ hi] at h2
    rw [show ((x - 1) % 5).toNat = ((x % 5).toNat + 4) % 5 by omega, show ((x - -1) % 5).toNat = ((x % 5).toNat + 1) % 5 by omega]
    have e3 : (if 1 % 64 ≤ (i % 64).toNat then (i % 64).toNat - 1 % 64 else 64 - 1 % 64 + (i % 64).toNat) = ((i - 1) % 64).toNat := by
      split <;> omega
    rw [e3] at h2
    revert h2
    generalize bt (c (x % 5).toNat) (i % 64).toNat = a1
    generalize bt (c (((x % 5).toNat + 4) % 5)) (i % 64).toNat = a2
    generalize bt (c (((x % 5).toNat + 1) % 5)) ((i - 1) % 64).toNat = a3
    generalize bt (d (x % 5).toNat) (i % 64).toNat = b1
    generalize bt (d (((x % 5).toNat + 4) % 5)) (i % 64).toNat = b2
    generalize bt (d (((x % 5).toNat + 1) % 5)) ((i - 1) % 64).toNat = b3
    cases a1 <;> cases a2 <;> cases a3 <;> cases b1 <;> cases b2 <;> cases b3 <;> simp)
  apply bt_ext
  intro i hi
  have h1 := congrFun (congrFun key (x : Int)) (i : Int)
  rw [show (((x : Int)) % 5).toNat = x by omega, show (((i : Int)) % 64).toNat = i by omega] at h1
  revert h1
  generalize bt (c x) i = a
  generalize bt (d x) i = b
  cases a <;> cases b <;> simp

theorem col_one {a0 a1 a2 a3 a4 b0 b1 b2 b3 b4 D E : UInt64} (h0 : a0 ^^^ D = b0 ^^^ E) (h1 : a1 ^^^ D = b1 ^^^ E) (h2 : a2 ^^^ D = b2 ^^^ E) (h3 : a3 ^^^ D = b3 ^^^ E) (h4 : a4 ^^^ D = b4 ^^^ E) :
    (((((0 ^^^ a0) ^^^ a1) ^^^ a2) ^^^ a3) ^^^ a4) ^^^ D = (((((0 ^^^ b0) ^^^ b1) ^^^ b2) ^^^ b3) ^^^ b4) ^^^ E := by
  apply bt_ext
  intro i hi
  have g0 := congrArg (fun z => bt z i) h0
  have g1 := congrArg (fun z => bt z i) h1
  have g2 := congrArg (fun z => bt z i) h2
  have g3 := congrArg (fun z => bt z i) h3
  have g4 := congrArg (fun z => bt z i) h4
  simp only [bt_xor, bt_zero] at g0 g1 g2 g3 g4 ⊢
  generalize bt D i = d at *
  generalize bt E i = e at *
  generalize bt a0 i = x0 at *; generalize bt a1 i = x1 at *; generalize bt a2 i = x2 at *; generalize bt a3 i = x3 at *; generalize bt a4 i = x4 at *
  generalize bt b0 i = y0 at *; generalize bt b1 i = y1 at *; generalize bt b2 i = y2 at *; generalize bt b3 i = y3 at *; generalize bt b4 i = y4 at *
  have one : ∀ x y d e : Bool, (x ^^ d) = (y ^^ e) → y = (x ^^ (d ^^ e)) := by decide
  rw [one _ _ _ _ g0, one _ _ _ _ g1, one _ _ _ _ g2, one _ _ _ _ g3, one _ _ _ _ g4]
  clear g0 g1 g2 g3 g4 one
  cases d <;> cases e <;> simp
  all_goals (cases x0 <;> simp)
theorem xor_back {a b D : UInt64} (h : a ^^^ D = b ^^^ D) : a = b := by
  apply bt_ext
  intro i hi
  have g0 := congrArg (fun z => bt z i) h
  simp only [bt_xor] at g0
  revert g0
  generalize bt a i = x; generalize bt b i = y; generalize bt D i = z
  cases x <;> cases y <;> cases z <;> simp

set_option maxRecDepth 100000 in
theorem theta_one (s0 s1 s2 s3 s4 s5 s6 s7 s8 s9 s10 s11 s12 s13 s14 s15 s16 s17 s18 s19 s20 s21 s22 s23 s24 : UInt64) : kTheta [s0, s1, s2, s3, s4, s5, s6, s7, s8, s9, s10, s11, s12, s13, s14, s15, s16, s17, s18, s19, s20, s21, s22, s23, s24] = [s0 ^^^ ((((((0 ^^^ s4) ^^^ s9) ^^^ s14) ^^^ s19) ^^^ s24) ^^^ rotl (((((0 ^^^ s1) ^^^ s6) ^^^ s11) ^^^ s16) ^^^ s21) 1), s1 ^^^ ((((((0 ^^^ s0) ^^^ s5) ^^^ s10) ^^^ s15) ^^^ s20) ^^^ rotl (((((0 ^^^ s2) ^^^ s7) ^^^ s12) ^^^ s17) ^^^ s22) 1), s2 ^^^ ((((((0 ^^^ s1) ^^^ s6) ^^^ s11) ^^^ s16) ^^^ s21) ^^^ rotl (((((0 ^^^ s3) ^^^ s8) ^^^ s13) ^^^ s18) ^^^ s23) 1), s3 ^^^ ((((((0 ^^^ s2) ^^^ s7) ^^^ s12) ^^^ s17) ^^^ s22) ^^^ rotl (((((0 ^^^ s4) ^^^ s9) ^^^ s14) ^^^ s19) ^^^ s24) 1), s4 ^^^ ((((((0 ^^^ s3) ^^^ s8) ^^^ s13) ^^^ s18) ^^^ s23) ^^^ rotl (((((0 ^^^ s0) ^^^ s5) ^^^ s10) ^^^ s15) ^^^ s20) 1), s5 ^^^ ((((((0 ^^^ s4) ^^^ s9) ^^^ s14) ^^^ s19) ^^^ s24) ^^^ rotl (((((0 ^^^ s1) ^^^ s6) ^^^ s11) ^^^ s16) ^^^ s21) 1), s6 ^^^ ((((((0 ^^^ s0) ^^^ s5) ^^^ s10) ^^^ s15) ^^^ s20) ^^^ rotl (((((0 ^^^ s2) ^^^ s7) ^^^ s12) ^^^ s17) ^^^ s22) 1), s7 ^^^ ((((((0 ^^^ s1) ^^^ s6) ^^^ s11) ^^^ s16) ^^^ s21) ^^^ rotl (((((0 ^^^ s3) ^^^ s8) ^^^ s13) ^^^ s18) ^^^ s23) 1), s8 ^^^ ((((((0 ^^^ s2) ^^^ s7) ^^^ s12) ^^^ s17) ^^^ s22) ^^^ rotl (((((0 ^^^ s4) ^^^ s9) ^^^ s14) ^^^ s19) ^^^ s24) 1), s9 ^^^ ((((((0 ^^^ s3) ^^^ s8) ^^^ s13) ^^^ s18) ^^^ s23) ^^^ rotl (((((0 ^^^ s0) ^^^ s5) ^^^ s10) ^^^ s15) ^^^ s20) 1), s10 ^^^ ((((((0 ^^^ s4) ^^^ s9) ^^^ s14) ^^^ s19) ^^^ s24) ^^^ rotl (((((0 ^^^ s1) ^^^ s6) ^^^ s11) ^^^ s16) ^^^ s21) 1), s11 ^^^ ((((((0 ^^^ s0) ^^^ s5) ^^^ s10) ^^^ s15) ^^^ s20) ^^^ rotl (((((0 ^^^ s2) ^^^ s7) ^^^ s12) ^^^ s17) ^^^ s22) 1), s12 ^^^ ((((((0 ^^^ s1) ^^^ s6) ^^^ s11) ^^^ s16) ^^^ s21) ^^^ rotl (((((0 ^^^ s3) ^^^ s8) ^^^ s13) ^^^ s18) ^^^ s23) 1), s13 ^^^ ((((((0 ^^^ s2) ^^^ s7) ^^^ s12) ^^^ s17) ^^^ s22) ^^^ rotl (((((0 ^^^ s4) ^^^ s9) ^^^ s14) ^^^ s19) ^^^ s24) 1), s14 ^^^ ((((((0 ^^^ s3) ^^^ s8) ^^^ s13) ^^^ s18) ^^^ s23) ^^^ rotl (((((0 ^^^ s0) ^^^ s5) ^^^ s10) ^^^ s15) ^^^ s20) 1), s15 ^^^ ((((((0 ^^^ s4) ^^^ s9) ^^^ s14) ^^^ s19) ^^^ s24) ^^^ rotl (((((0 ^^^ s1) ^^^ s6) ^^^ s11) ^^^ s16) ^^^ s21) 1), s16 ^^^ ((((((0 ^^^ s0) ^^^ s5) ^^^ s10) ^^^ s15) ^^^ s20) ^^^ rotl (((((0 ^^^ s2) ^^^ s7) ^^^ s12) ^^^ s17) ^^^ s22) 1), s17 ^^^ ((((((0 ^^^ s1) ^^^ s6) ^^^ s11) ^^^ s16) ^^^ s21) ^^^ rotl (((((0 ^^^ s3) ^^^ s8) ^^^ s13) ^^^ s18) ^^^ s23) 1), s18 ^^^ ((((((0 ^^^ s2) ^^^ s7) ^^^ s12) ^^^ s17) ^^^ s22) ^^^ rotl (((((0 ^^^ s4) ^^^ s9) ^^^ s14) ^^^ s19) ^^^ s24) 1), s19 ^^^ ((((((0 ^^^ s3) ^^^ s8) ^^^ s13) ^^^ s18) ^^^ s23) ^^^ rotl (((((0 ^^^ s0) ^^^ s5) ^^^ s10) ^^^ s15) ^^^ s20) 1), s20 ^^^ ((((((0 ^^^ s4) ^^^ s9) ^^^ s14) ^^^ s19) ^^^ s24) ^^^ rotl (((((0 ^^^ s1) ^^^ s6) ^^^ s11) ^^^ s16) ^^^ s21) 1), s21 ^^^ ((((((0 ^^^ s0) ^^^ s5) ^^^ s10) ^^^ s15) ^^^ s20) ^^^ rotl (((((0 ^^^ s2) ^^^ s7) ^^^ s12) ^^^ s17) ^^^ s22) 1), s22 ^^^ ((((((0 ^^^ s1) ^^^ s6) ^^^ s11) ^^^ s16) ^^^ s21) ^^^ rotl (((((0 ^^^ s3) ^^^ s8) ^^^ s13) ^^^ s18) ^^^ s23) 1), s23 ^^^ ((((((0 ^^^ s2) ^^^ s7) ^^^ s12) ^^^ s17) ^^^ s22) ^^^ rotl (((((0 ^^^ s4) ^^^ s9) ^^^ s14) ^^^ s19) ^^^ s24) 1), s24 ^^^ ((((((0 ^^^ s3) ^^^ s8) ^^^ s13) ^^^ s18) ^^^ s23) ^^^ rotl (((((0 ^^^ s0) ^^^ s5) ^^^ s10) ^^^ s15) ^^^ s20) 1)] := by kernel_rfl

set_option maxRecDepth 100000 in
theorem theta_inj {s t : List UInt64} (hs : s.length = 25) (ht : t.length = 25) (h : kTheta s = kTheta t) : s = t := by
  obtain ⟨s0, s1, s2, s3, s4, s5, s6, s7, s8, s9, s10, s11, s12, s13, s14, s15, s16, s17, s18, s19, s20, s21, s22, s23, s24, rfl⟩ := list25 s hs
  obtain ⟨t0, t1, t2, t3, t4, t5, t6, t7, t8, t9, t10, t11, t12, t13, t14, t15, t16, t17, t18, t19, t20, t21, t22, t23, t24, rfl⟩ := list25 t ht
  rw [theta_one, theta_one] at h
  simp only [List.cons.injEq] at h
  obtain ⟨h0, h1, h2, h3, h4, h5, h6, h7, h8, h9, h10, h11, h12, h13, h14, h15, h16, h17, h18, h19, h20, h21, h22, h23, h24, -⟩ := h
  have c0 := col_one h0 h5 h10 h15 h20
  have c1 := col_one h1 h6 h11 h16 h21
  have c2 := col_one h2 h7 h12 h17 h22
  have c3 := col_one h3 h8 h13 h18 h23
  have c4 := col_one h4 h9 h14 h19 h24
  have key := five (fun x => at64 [(((((0 ^^^ s0) ^^^ s5) ^^^ s10) ^^^ s15) ^^^ s20), (((((0 ^^^ s1) ^^^ s6) ^^^ s11) ^^^ s16) ^^^ s21), (((((0 ^^^ s2) ^^^ s7) ^^^ s12) ^^^ s17) ^^^ s22), (((((0 ^^^ s3) ^^^ s8) ^^^ s13) ^^^ s18) ^^^ s23), (((((0 ^^^ s4) ^^^ s9) ^^^ s14) ^^^ s19) ^^^ s24)] x) (fun x => at64 [(((((0 ^^^ t0) ^^^ t5) ^^^ t10) ^^^ t15) ^^^ t20), (((((0 ^^^ t1) ^^^ t6) ^^^ t11) ^^^ t16) ^^^ t21), (((((0 ^^^ t2) ^^^ t7) ^^^ t12) ^^^ t17) ^^^ t22), (((((0 ^^^ t3) ^^^ t8) ^^^ t13) ^^^ t18) ^^^ t23), (((((0 ^^^ t4) ^^^ t9) ^^^ t14) ^^^ t19) ^^^ t24)] x) (fun x hx => by
    match x, hx with
    | 0, _ => exact c0
    | 1, _ => exact c1
    | 2, _ => exact c2
    | 3, _ => exact c3
    | 4, _ => exact c4
    )
  have e0 : (((((0 ^^^ s0) ^^^ s5) ^^^ s10) ^^^ s15) ^^^ s20) = (((((0 ^^^ t0) ^^^ t5) ^^^ t10) ^^^ t15) ^^^ t20) := key 0 (by omega)
  have e1 : (((((0 ^^^ s1) ^^^ s6) ^^^ s11) ^^^ s16) ^^^ s21) = (((((0 ^^^ t1) ^^^ t6) ^^^ t11) ^^^ t16) ^^^ t21) := key 1 (by omega)
  have e2 : (((((0 ^^^ s2) ^^^ s7) ^^^ s12) ^^^ s17) ^^^ s22) = (((((0 ^^^ t2) ^^^ t7) ^^^ t12) ^^^ t17) ^^^ t22) := key 2 (by omega)
  have e3 : (((((0 ^^^ s3) ^^^ s8) ^^^ s13) ^^^ s18) ^^^ s23) = (((((0 ^^^ t3) ^^^ t8) ^^^ t13) ^^^ t18) ^^^ t23) := key 3 (by omega)
  have e4 : (((((0 ^^^ s4) ^^^ s9) ^^^ s14) ^^^ s19) ^^^ s24) = (((((0 ^^^ t4) ^^^ t9) ^^^ t14) ^^^ t19) ^^^ t24) := key 4 (by omega)
  clear key c0 c1 c2 c3 c4
  rw [e4, e1] at h0
  rw [e0, e2] at h1
  rw [e1, e3] at h2
  rw [e2, e4] at h3
  rw [e3, e0] at h4
  rw [e4, e1] at h5
  rw [e0, e2] at h6
  rw [e1, e3] at h7
  rw [e2, e4] at h8
  rw [e3, e0] at h9
  rw [e4, e1] at h10
  rw [e0, e2] at h11
  rw [e1, e3] at h12
  rw [e2, e4] at h13
  rw [e3, e0] at h14
  rw [e4, e1] at h15
  rw [e0, e2] at h16
  rw [e1, e3] at h17
  rw [e2, e4] at h18
  rw [e3, e0] at h19
  rw [e4, e1] at h20
  rw [e0, e2] at h21
  rw [e1, e3] at h22
  rw [e2, e4] at h23
  rw [e3, e0] at h24
  have k0 := xor_back h0
  have k1 := xor_back h1
  have k2 := xor_back h2
  have k3 := xor_back h3
  have k4 := xor_back h4
  have k5 := xor_back h5
  have k6 := xor_back h6
  have k7 := xor_back h7
  have k8 := xor_back h8
  have k9 := xor_back h9
  have k10 := xor_back h10
  have k11 := xor_back h11
  have k12 := xor_back h12
  have k13 := xor_back h13
  have k14 := xor_back h14
  have k15 := xor_back h15
  have k16 := xor_back h16
  have k17 := xor_back h17
  have k18 := xor_back h18
  have k19 := xor_back h19
  have k20 := xor_back h20
  have k21 := xor_back h21
  have k22 := xor_back h22
  have k23 := xor_back h23
  have k24 := xor_back h24
  rw [k0, k1, k2, k3, k4, k5, k6, k7, k8, k9, k10, k11, k12, k13, k14, k15, k16, k17, k18, k19, k20, k21, k22, k23, k24]

set_option maxRecDepth 100000 in
theorem kWalk_lit (s0 s1 s2 s3 s4 s5 s6 s7 s8 s9 s10 s11 s12 s13 s14 s15 s16 s17 s18 s19 s20 s21 s22 s23 s24 : UInt64) : kWalk [s0, s1, s2, s3, s4, s5, s6, s7, s8, s9, s10, s11, s12, s13, s14, s15, s16, s17, s18, s19, s20, s21, s22, s23, s24] = [s0, rotl s6 300, rotl s12 171, rotl s18 21, rotl s24 78, rotl s3 28, rotl s9 276, rotl s10 3, rotl s16 45, rotl s22 253, rotl s1 1, rotl s7 6, rotl s13 153, rotl s19 136, rotl s20 210, rotl s4 91, rotl s5 36, rotl s11 10, rotl s17 15, rotl s23 120, rotl s2 190, rotl s8 55, rotl s14 231, rotl s15 105, rotl s21 66] := by kernel_rfl
set_option maxRecDepth 100000 in
theorem kWalk_inj {s t : List UInt64} (hs : s.length = 25) (ht : t.length = 25) (h : kWalk s = kWalk t) : s = t := by
  obtain ⟨s0, s1, s2, s3, s4, s5, s6, s7, s8, s9, s10, s11, s12, s13, s14, s15, s16, s17, s18, s19, s20, s21, s22, s23, s24, rfl⟩ := list25 s hs
  obtain ⟨t0, t1, t2, t3, t4, t5, t6, t7, t8, t9, t10, t11, t12, t13, t14, t15, t16, t17, t18, t19, t20, t21, t22, t23, t24, rfl⟩ := list25 t ht
  rw [kWalk_lit, kWalk_lit] at h
  simp only [List.cons.injEq] at h
  obtain ⟨h0, h1, h2, h3, h4, h5, h6, h7, h8, h9, h10, h11, h12, h13, h14, h15, h16, h17, h18, h19, h20, h21, h22, h23, h24, -⟩ := h
  have k0 := h0
  have k6 := rotl_inj h1
  have k12 := rotl_inj h2
  have k18 := rotl_inj h3
  have k24 := rotl_inj h4
  have k3 := rotl_inj h5
  have k9 := rotl_inj h6
  have k10 := rotl_inj h7
  have k16 := rotl_inj h8
  have k22 := rotl_inj h9
  have k1 := rotl_inj h10
  have k7 := rotl_inj h11
  have k13 := rotl_inj h12
  have k19 := rotl_inj h13
  have k20 := rotl_inj h14
  have k4 := rotl_inj h15
  have k5 := rotl_inj h16
  have k11 := rotl_inj h17
  have k17 := rotl_inj h18
  have k23 := rotl_inj h19
  have k2 := rotl_inj h20
  have k8 := rotl_inj h21
  have k14 := rotl_inj h22
  have k15 := rotl_inj h23
  have k21 := rotl_inj h24
  rw [k0, k1, k2, k3, k4, k5, k6, k7, k8, k9, k10, k11, k12, k13, k14, k15, k16, k17, k18, k19, k20, k21, k22, k23, k24]

theorem chi_bits : ∀ a0 a1 a2 a3 a4 b0 b1 b2 b3 b4 : Bool, (a0 ^^ (!a1 && a2)) = (b0 ^^ (!b1 && b2)) → (a1 ^^ (!a2 && a3)) = (b1 ^^ (!b2 && b3)) → (a2 ^^ (!a3 && a4)) = (b2 ^^ (!b3 && b4)) → (a3 ^^ (!a4 && a0)) = (b3 ^^ (!b4 && b0)) → (a4 ^^ (!a0 && a1)) = (b4 ^^ (!b0 && b1)) → a0 = b0 ∧ a1 = b1 ∧ a2 = b2 ∧ a3 = b3 ∧ a4 = b4 := by decide +kernel
theorem chi_row {a0 a1 a2 a3 a4 b0 b1 b2 b3 b4 : UInt64} (h0 : a0 ^^^ (~~~a1 &&& a2) = b0 ^^^ (~~~b1 &&& b2)) (h1 : a1 ^^^ (~~~a2 &&& a3) = b1 ^^^ (~~~b2 &&& b3)) (h2 : a2 ^^^ (~~~a3 &&& a4) = b2 ^^^ (~~~b3 &&& b4)) (h3 : a3 ^^^ (~~~a4 &&& a0) = b3 ^^^ (~~~b4 &&& b0)) (h4 : a4 ^^^ (~~~a0 &&& a1) = b4 ^^^ (~~~b0 &&& b1)) :
    a0 = b0 ∧ a1 = b1 ∧ a2 = b2 ∧ a3 = b3 ∧ a4 = b4 := by
  have bits : ∀ i, i < 64 → bt a0 i = bt b0 i ∧ bt a1 i = bt b1 i ∧ bt a2 i = bt b2 i ∧ bt a3 i = bt b3 i ∧ bt a4 i = bt b4 i := by
    intro i hi
    have g0 := congrArg (fun z => bt z i) h0
    have g1 := congrArg (fun z => bt z i) h1
    have g2 := congrArg (fun z => bt z i) h2
    have g3 := congrArg (fun z => bt z i) h3
    have g4 := congrArg (fun z => bt z i) h4
    simp only [bt_xor, bt_and, bt_not _ _ hi] at g0 g1 g2 g3 g4
    exact chi_bits _ _ _ _ _ _ _ _ _ _ g0 g1 g2 g3 g4
  exact ⟨bt_ext fun i hi => (bits i hi).1, bt_ext fun i hi => (bits i hi).2.1, bt_ext fun i hi => (bits i hi).2.2.1, bt_ext fun i hi => (bits i hi).2.2.2.1, bt_ext fun i hi => (bits i hi).2.2.2.2⟩

set_option maxRecDepth 100000 in
theorem chi_lit (b0 b1 b2 b3 b4 b5 b6 b7 b8 b9 b10 b11 b12 b13 b14 b15 b16 b17 b18 b19 b20 b21 b22 b23 b24 s0 s1 s2 s3 s4 s5 s6 s7 s8 s9 s10 s11 s12 s13 s14 s15 s16 s17 s18 s19 s20 s21 s22 s23 s24 : UInt64) : kChiTo [b0, b1, b2, b3, b4, b5, b6, b7, b8, b9, b10, b11, b12, b13, b14, b15, b16, b17, b18, b19, b20, b21, b22, b23, b24] [s0, s1, s2, s3, s4, s5, s6, s7, s8, s9, s10, s11, s12, s13, s14, s15, s16, s17, s18, s19, s20, s21, s22, s23, s24] 25 = [b0 ^^^ (~~~b1 &&& b2), b1 ^^^ (~~~b2 &&& b3), b2 ^^^ (~~~b3 &&& b4), b3 ^^^ (~~~b4 &&& b0), b4 ^^^ (~~~b0 &&& b1), b5 ^^^ (~~~b6 &&& b7), b6 ^^^ (~~~b7 &&& b8), b7 ^^^ (~~~b8 &&& b9), b8 ^^^ (~~~b9 &&& b5), b9 ^^^ (~~~b5 &&& b6), b10 ^^^ (~~~b11 &&& b12), b11 ^^^ (~~~b12 &&& b13), b12 ^^^ (~~~b13 &&& b14), b13 ^^^ (~~~b14 &&& b10), b14 ^^^ (~~~b10 &&& b11), b15 ^^^ (~~~b16 &&& b17), b16 ^^^ (~~~b17 &&& b18), b17 ^^^ (~~~b18 &&& b19), b18 ^^^ (~~~b19 &&& b15), b19 ^^^ (~~~b15 &&& b16), b20 ^^^ (~~~b21 &&& b22), b21 ^^^ (~~~b22 &&& b23), b22 ^^^ (~~~b23 &&& b24), b23 ^^^ (~~~b24 &&& b20), b24 ^^^ (~~~b20 &&& b21)] := by kernel_rfl
set_option maxRecDepth 100000 in
theorem chi_inj {b c s t : List UInt64} (hb : b.length = 25) (hc : c.length = 25) (hs : s.length = 25) (ht : t.length = 25) (h : kChiTo b s 25 = kChiTo c t 25) : b = c := by
  obtain ⟨b0, b1, b2, b3, b4, b5, b6, b7, b8, b9, b10, b11, b12, b13, b14, b15, b16, b17, b18, b19, b20, b21, b22, b23, b24, rfl⟩ := list25 b hb
  obtain ⟨c0, c1, c2, c3, c4, c5, c6, c7, c8, c9, c10, c11, c12, c13, c14, c15, c16, c17, c18, c19, c20, c21, c22, c23, c24, rfl⟩ := list25 c hc
  obtain ⟨s0, s1, s2, s3, s4, s5, s6, s7, s8, s9, s10, s11, s12, s13, s14, s15, s16, s17, s18, s19, s20, s21, s22, s23, s24, rfl⟩ := list25 s hs
  obtain ⟨t0, t1, t2, t3, t4, t5, t6, t7, t8, t9, t10, t11, t12, t13, t14, t15, t16, t17, t18, t19, t20, t21, t22, t23, t24, rfl⟩ := list25 t ht
  rw [chi_lit, chi_lit] at h
  simp only [List.cons.injEq] at h
  obtain ⟨h0, h1, h2, h3, h4, h5, h6, h7, h8, h9, h10, h11, h12, h13, h14, h15, h16, h17, h18, h19, h20, h21, h22, h23, h24, -⟩ := h
  obtain ⟨k0, k1, k2, k3, k4⟩ := chi_row h0 h1 h2 h3 h4
  obtain ⟨k5, k6, k7, k8, k9⟩ := chi_row h5 h6 h7 h8 h9
  obtain ⟨k10, k11, k12, k13, k14⟩ := chi_row h10 h11 h12 h13 h14
  obtain ⟨k15, k16, k17, k18, k19⟩ := chi_row h15 h16 h17 h18 h19
  obtain ⟨k20, k21, k22, k23, k24⟩ := chi_row h20 h21 h22 h23 h24
  rw [k0, k1, k2, k3, k4, k5, k6, k7, k8, k9, k10, k11, k12, k13, k14, k15, k16, k17, k18, k19, k20, k21, k22, k23, k24]

theorem set_inj {l m : List UInt64} {c : UInt64} (hl : l.length = 25) (hm : m.length = 25) (h : l.set 0 (at64 l 0 ^^^ c) = m.set 0 (at64 m 0 ^^^ c)) : l = m := by
  match l, m, hl, hm with
  | a :: l, b :: m, hl, hm =>
    simp only [List.set_cons_zero, List.cons.injEq] at h
    rw [show at64 (a :: l) 0 = a from rfl, show at64 (b :: m) 0 = b from rfl] at h
    rw [xor_back h.1, h.2]
theorem round_inj {s t : List UInt64} {c : UInt64} (hs : s.length = 25) (ht : t.length = 25) (h : kRound s c = kRound t c) : s = t := by
  unfold kRound at h
  have h1 := set_inj (by rw [kChiTo_length, kTheta_length]; exact hs) (by rw [kChiTo_length, kTheta_length]; exact ht) h
  have h2 := chi_inj (kWalk_length _) (kWalk_length _) (by rw [kTheta_length]; exact hs) (by rw [kTheta_length]; exact ht) h1
  have h3 := kWalk_inj (by rw [kTheta_length]; exact hs) (by rw [kTheta_length]; exact ht) h2
  exact theta_inj hs ht h3
theorem permTo_inj {s t : List UInt64} (hs : s.length = 25) (ht : t.length = 25) (k : Nat) (h : kPermTo s k = kPermTo t k) : s = t := by
  induction k with
  | zero => exact h
  | succ k ih =>
    have h' : kRound (kPermTo s k) (at64 kConsts k) = kRound (kPermTo t k) (at64 kConsts k) := h
    exact ih (round_inj (by rw [kPermTo_length]; exact hs) (by rw [kPermTo_length]; exact ht) h')
theorem perm_inj {s t : List UInt64} (hs : s.length = 25) (ht : t.length = 25) (h : kPerm s = kPerm t) : s = t := permTo_inj hs ht 24 h
end Go.Proofs.Ytgjlclihgpahbaa

namespace Go.Proofs.Ytgjlclihgpahbaa
open Go.RowKit
set_option linter.unusedVariables false

theorem leTo_slice (l m : List UInt8) (a : Nat) (n : Nat) (h : ∀ j, j < n → l[a + j]? = m[j]?) : leTo l (a : Int) n = leTo m 0 n := by
  induction n with
  | zero => rfl
  | succ n ih =>
    unfold leTo
    rw [ih fun j hj => h j (by omega), show (a : Int) + (n : Int) = ((a + n : Nat) : Int) by omega, Int.zero_add]
    congr 2
    have h1 := h n (by omega)
    cases hm : m[n]? with
    | none =>
      rw [hm] at h1
      have e1 := List.getElem?_eq_none_iff.1 h1
      have e2 := List.getElem?_eq_none_iff.1 hm
      unfold byteAt
      rw [if_neg (by omega), if_neg (by omega)]
    | some b => rw [hm] at h1; rw [byteAt_nat h1, byteAt_nat hm]
theorem kflat_get (s : List UInt64) : ∀ (i j : Nat), i < s.length → j < 8 → (s.flatMap fun x => leL 8 x.toNat)[8 * i + j]? = (leL 8 (at64 s i).toNat)[j]? := by
  induction s with
  | nil => intro i j hi; simp at hi
  | cons x s ih =>
    intro i j hi hj
    rw [List.flatMap_cons]
    cases i with
    | zero =>
      rw [List.getElem?_append_left (by rw [leL_length]; omega), Nat.mul_zero, Nat.zero_add]
      rfl
    | succ i =>
      rw [List.getElem?_append_right (by rw [leL_length]; omega), leL_length, show 8 * (i + 1) + j - 8 = 8 * i + j by omega, ih i j (by simpa using hi) hj]
      rfl
theorem from_back (s : List UInt64) (hs : s.length = 25) : kFrom (kBytes s) = s := by
  unfold kFrom kBytes
  apply List.ext_getElem
  · simp [hs]
  · intro i h1 h2
    have hi : i < 25 := by simpa using h1
    rw [List.getElem_map, List.getElem_range]
    have e := leTo_slice (s.flatMap fun x => leL 8 x.toNat) (leL 8 (at64 s i).toNat) (8 * i) 8 (fun j hj => kflat_get s i j h2 hj)
    rw [show ((8 : Int) * (i : Int)) = ((8 * i : Nat) : Int) by omega, e, leTo_back _ _ (at64 s i).toNat_lt]
    rw [UInt64.ofNat_toNat]
    simp [at64, h2]
theorem kBytes_inj {s t : List UInt64} (hs : s.length = 25) (ht : t.length = 25) (h : kBytes s = kBytes t) : s = t := by
  rw [← from_back s hs, ← from_back t ht, h]
theorem bytes_h (s : List UInt64) (hs : Hid (s.length = 25)) (w : World) :
    Calls Try.prog 51 #[.agg (s.map u64v).toArray] w fun e w' => e = .returned (.agg ((kBytes s).map vb).toArray) ∧ Below w.heap.size w w' := bytes_s s hs.out w
theorem from_b (s : List UInt64) (hs : Hid (s.length = 25)) (w : World) :
    Calls Try.prog 53 #[.agg ((kBytes s).map vb).toArray] w fun e w' => e = .returned (.agg (s.map u64v).toArray) ∧ Below w.heap.size w w' := by
  have h := from_s (kBytes s) (kBytes_length s hs.out) w
  rw [from_back s hs.out] at h
  exact h
end Go.Proofs.Ytgjlclihgpahbaa

namespace Go.Proofs.Ytgjlclihgpahbaa
open Go.RowKit
set_option linter.unusedVariables false

theorem kBytes_get (s : List UInt64) (k : Nat) (hk : k < 8 * s.length) : (kBytes s)[k]? = some (UInt8.ofNat ((at64 s (k / 8)).toNat / 256 ^ (k % 8))) := by
  have h := kflat_get s (k / 8) (k % 8) (by omega) (by omega)
  rw [show 8 * (k / 8) + k % 8 = k by omega, leL_get (by omega)] at h
  exact h
theorem quo8 (k : Nat) : (k : Int).tdiv 8 = ((k / 8 : Nat) : Int) := by
  rw [Int.tdiv_eq_ediv_of_nonneg (Int.natCast_nonneg _)]; rfl
theorem rem8 (k : Nat) : (k : Int).tmod 8 = ((k % 8 : Nat) : Int) := by
  rw [Int.tmod_eq_emod_of_nonneg (Int.natCast_nonneg _)]; rfl

set_option maxHeartbeats 2000000 in
theorem refBytes_s (s : List UInt64) (hs : Hid (s.length = 25)) (w : World) :
    Calls Try.prog 63 #[.agg (s.map u64v).toArray] w fun e w' => e = .returned (.agg ((kBytes s).map vb).toArray) ∧ Below w.heap.size w w' := by
  have HB := Lib.hid (kBytes_length s hs.out)
  go_enter Try.func63, Try.ntmps63
  have hz0 := zero_bytes
  go_wp2
  clear hz0
  refine absorb_wp (St.start_lay w [] |>.allocAt 0 rfl w.heap.size rfl _ _ |>.push_mk rfl |>.allocAt 1 rfl (w.heap.size + 1) (by simp) _ _ |>.push_mk rfl |>.allocAt 2 rfl (w.heap.size + 1 + 1) (by simp) _ _ |>.push_mk rfl) ?_
  intro w3 H3
  generalize w.heap.size + 1 + 1 = g3 at H3 ⊢
  generalize w.heap.size + 1 = g2 at H3 ⊢
  generalize w.heap.size = g1 at H3 ⊢
  go_loopw [4] (fun i wr => ∃ k : Nat, k ≤ 200 ∧ i = .int .i64 k ∧ St w [] wr (lay [.blk g1 92 (s.map u64v), .blk g2 69 (zb 200), .blk g3 69 ((wideTo (kBytes s) k).map vb)])) (fun i _ => 200 - (intOf i).toNat)
  case atStart => exact ⟨0, by omega, rfl, by rw [wideTo_zero]; exact H3⟩
  case round =>
    clear H3
    obtain ⟨k, hk, rfl, Hk⟩ := hrel
    by_cases hlt : k < 200
    · have HG := Lib.hid (kBytes_get s k (by rw [hs.out]; omega))
      obtain ⟨x, hx⟩ : ∃ x, Hid (at64 s (k / 8) = x) := ⟨_, rfl⟩
      have a0 := (Hk.cell 0 rfl (u64_get (l := s) (k := k / 8) (by rw [hs.out]; omega)))
      rw [hx.out] at a0 HG
      have HL : Hid ((wideTo (kBytes s) k).length = 200) := wideTo_length _ k hk (by rw [HB.out]; omega)
      have HN := Lib.hid (wideTo_succ (kBytes s) k _ hlt HG.out)
      obtain ⟨u, hu⟩ : ∃ u, ((wideTo (kBytes s) k).map vb)[k]? = some u := ⟨_, List.getElem?_eq_getElem (by rw [List.length_map, HL.out]; exact hlt)⟩
      have b0 := Hk.cell 2 rfl hu
      have bf := Hk.free 2 rfl k
      have e1 := quo8 k
      have e2 := rem8 k
      obtain ⟨q, hq⟩ : ∃ q, Hid (k / 8 = q) := ⟨_, rfl⟩
      obtain ⟨m, hm⟩ : ∃ m, Hid (k % 8 = m) := ⟨_, rfl⟩
      have hm7 : (m : Int) ≤ 7 := by have := hm.out; omega
      have hq25 : (q : Int) < 25 := by have := hq.out; omega
      rw [hq.out] at e1 a0
      rw [hm.out] at e2 HG HN
      have hk1 : (k : Int) < 200 := by omega
      clear hu
      go_wp2
      go_roundw
      case rel => exact ⟨k + 1, by omega, by go_num, by rw [byte_eq]; have h := (Hk.store 2 rfl (o := k) (u := vb (UInt8.ofNat (x.toNat / 256 ^ m)))).upd_mk (by simp); rw [← List.map_set, HN.out] at h; exact h⟩
      case measure => simp [intOf]; omega
    · obtain rfl : k = 200 := by omega
      rw [wideTo_end _ 200 (.inr rfl) (by omega) (by rw [HB.out]; omega)] at Hk
      have HW : wide (kBytes s) = kBytes s := by unfold wide; rw [List.take_of_length_le (by rw [HB.out]; omega), HB.out]; simp
      rw [HW] at Hk
      clear HW
      rw [show ((200:Nat):Int) = 200 from rfl]
      go_wp2_with (first | (refine wpList_load_row rfl 69 (.tmp 3) rfl g3 rfl _ _ _ _ (Hk.blk 2 rfl) Try.underlying69 rfl (by rw [bytes_size]; simp [HB.out]) ?_) | (refine wpList_store_mid rfl 69 (.tmp 2) (.tmp 20) rfl g2 0 _ rfl rfl (there_eq (Hk.there 1 rfl) (by simp [HB.out, zb_length])) (by rw [bytes_size]; simp [HB.out]) (all_oneCell_toArray (vb_one _)) ?_))
      have H4 := (Hk.storeAll 1 rfl (vs := (kBytes s).map vb) (by simp [HB.out, zb_length])).upd_mk (by simp)
      exact bodyPost_ret (results_cell_row rfl _ _ g2 69 ((kBytes s).map vb).toArray _ _ rfl (H4.blk 1 rfl) Try.underlying69 rfl (by rw [bytes_size]; simp [HB.out])) rfl ⟨rfl, H4.below⟩
end Go.Proofs.Ytgjlclihgpahbaa

namespace Go.Proofs.Ytgjlclihgpahbaa
open Go.RowKit
set_option linter.unusedVariables false

def kPart (b : List UInt8) (k : Nat) : List UInt64 := (List.range 25).map fun (i : Nat) => UInt64.ofNat (leTo b (8 * i) (min 8 (k - 8 * i)))
theorem kPart_length (b : List UInt8) (k : Nat) : (kPart b k).length = 25 := by simp [kPart]
theorem kPart_zero (b : List UInt8) : kPart b 0 = List.replicate 25 0 := by
  unfold kPart
  simp only [Nat.zero_sub, Nat.min_zero, leTo]
  rw [List.map_const']; simp
theorem kPart_end (b : List UInt8) : kPart b 200 = kFrom b := by
  unfold kPart kFrom
  apply List.map_congr_left
  intro i hi
  have := List.mem_range.1 hi
  rw [show min 8 (200 - 8 * i) = 8 by omega]
theorem kPart_get (b : List UInt8) (k : Nat) (hk : k < 200) : at64 (kPart b k) (k / 8) = UInt64.ofNat (leTo b (8 * (k / 8 : Nat)) (k % 8)) := by
  unfold kPart at64
  rw [List.getD_eq_getElem?_getD, List.getElem?_map, List.getElem?_range (by omega)]
  simp only [Option.map_some, Option.getD_some]
  rw [show min 8 (k - 8 * (k / 8)) = k % 8 by omega]
theorem kPart_succ (b : List UInt8) (k : Nat) (hk : k < 200) : (kPart b k).set (k / 8) (UInt64.ofNat (leTo b (8 * (k / 8 : Nat)) (k % 8 + 1))) = kPart b (k + 1) := by
  unfold kPart
  apply List.ext_getElem
  · simp
  · intro i h1 h2
    have hi : i < 25 := by simpa using h2
    rw [List.getElem_set]
    simp only [List.getElem_map, List.getElem_range]
    split
    · rename_i h; subst h; rw [show min 8 (k + 1 - 8 * (k / 8)) = k % 8 + 1 by omega]
    · rename_i h; rw [show min 8 (k + 1 - 8 * i) = min 8 (k - 8 * i) by omega]

theorem lane_step (b : List UInt8) (a : Int) (m : Nat) (v : UInt8) (x : UInt64) (hx : x = UInt64.ofNat (leTo b a m)) (hv : byteAt b (a + m) = v.toNat) (hm : m ≤ 7) :
    IntKind.u64.wrap (↑x.toNat + IntKind.u64.wrap (IntKind.u64.wrap ↑v.toNat * 2 ^ (8 * m))) = ((UInt64.ofNat (leTo b a (m + 1))).toNat : Int) := by
  have h1 := leTo_lt b a m
  have h2 := leTo_lt b a (m + 1)
  have h3 : 256 ^ m ≤ 256 ^ 7 := Nat.pow_le_pow_right (by omega) hm
  have h4 : 256 ^ (m + 1) ≤ 256 ^ 8 := Nat.pow_le_pow_right (by omega) (by omega)
  have h5 : leTo b a (m + 1) = leTo b a m + v.toNat * 256 ^ m := by rw [← hv]; rfl
  have h6 : x.toNat = leTo b a m := by
    rw [hx, UInt64.toNat_ofNat', Nat.mod_eq_of_lt]
    exact Nat.lt_of_lt_of_le h1 (Nat.le_trans h3 (by decide))
  have h7 : (UInt64.ofNat (leTo b a (m + 1))).toNat = leTo b a (m + 1) := by
    rw [UInt64.toNat_ofNat', Nat.mod_eq_of_lt]
    exact Nat.lt_of_lt_of_le h2 (Nat.le_trans h4 (by decide))
  have hv8 := v.toNat_lt
  have e8 : ((2 : Int) ^ (8 * m)) = ((256 ^ m : Nat) : Int) := by rw [show (256 : Nat) ^ m = 2 ^ (8 * m) by rw [Nat.pow_mul], Int.natCast_pow]; rfl
  rw [h7, h6, IntWalk.u64_in (v.toNat : Int) (by omega), e8]
  rw [show ((v.toNat : Int) * ((256 ^ m : Nat) : Int)) = ((v.toNat * 256 ^ m : Nat) : Int) by simp]
  have h9 : leTo b a m + v.toNat * 256 ^ m < 256 ^ 8 := by rw [← h5]; exact Nat.lt_of_lt_of_le h2 h4
  generalize v.toNat * 256 ^ m = z at *
  rw [IntWalk.u64_in (z : Int) (by simp at h9; omega), IntWalk.u64_in _ (by simp at h9; omega), h5]
  simp

set_option maxHeartbeats 2000000 in
theorem refFrom_s (b : List UInt8) (hb : Hid (b.length = 200)) (w : World) :
    Calls Try.prog 65 #[.agg (b.map vb).toArray] w fun e w' => e = .returned (.agg ((kFrom b).map u64v).toArray) ∧ Below w.heap.size w w' := by
  go_enter Try.func65, Try.ntmps65
  go_wp2
  refine absorb_wp (St.start_lay w [] |>.allocAt 0 rfl w.heap.size rfl _ _ |>.push_mk rfl |>.allocAt 1 rfl (w.heap.size + 1) (by simp) _ _ |>.push_mk rfl |>.allocAt 2 rfl (w.heap.size + 1 + 1) (by simp) _ _ |>.push_mk rfl) ?_
  intro w3 H3
  generalize w.heap.size + 1 + 1 = g3 at H3 ⊢
  generalize w.heap.size + 1 = g2 at H3 ⊢
  generalize w.heap.size = g1 at H3 ⊢
  go_loopw [4] (fun i wr => ∃ k : Nat, k ≤ 200 ∧ i = .int .i64 k ∧ St w [] wr (lay [.blk g1 69 (b.map vb), .blk g2 92 ((List.replicate 25 0).map u64v), .blk g3 92 ((kPart b k).map u64v)])) (fun i _ => 200 - (intOf i).toNat)
  case atStart => exact ⟨0, by omega, rfl, by rw [kPart_zero]; exact H3⟩
  case round =>
    clear H3
    obtain ⟨k, hk, rfl, Hk⟩ := hrel
    by_cases hlt : k < 200
    · have HG := Lib.hid (kPart_get b k hlt)
      have HN := Lib.hid (kPart_succ b k hlt)
      obtain ⟨v, hv⟩ : ∃ v, b[k]? = some v := ⟨_, List.getElem?_eq_getElem (by rw [hb.out]; exact hlt)⟩
      have a0 := (Hk.drew.cell 0 rfl (o := k) (u := vb v) (by rw [List.getElem?_map, hv]; rfl))
      obtain ⟨x, hx⟩ : ∃ x, Hid (at64 (kPart b k) (k / 8) = x) := ⟨_, rfl⟩
      have b0 := (Hk.drew.cell 2 rfl (u64_get (l := kPart b k) (k := k / 8) (by rw [kPart_length]; omega)))
      have bf := Hk.drew.free 2 rfl (k / 8)
      rw [hx.out] at b0 HG
      have e1 := quo8 k
      have e2 := rem8 k
      obtain ⟨q, hq⟩ : ∃ q, Hid (k / 8 = q) := ⟨_, rfl⟩
      obtain ⟨m, hm⟩ : ∃ m, Hid (k % 8 = m) := ⟨_, rfl⟩
      have hm7 : (m : Int) ≤ 7 := by have := hm.out; omega
      have hq25 : (q : Int) < 25 := by have := hq.out; omega
      rw [hq.out] at e1 b0 bf HG HN
      rw [hm.out] at e2 HG HN
      have hk1 : (k : Int) < 200 := by omega
      have HV : Hid _ := lane_step b (8 * (q : Int)) m v x HG.out (by rw [show (8 * (q : Int) + (m : Int)) = (k : Int) by have := hq.out; have := hm.out; omega]; exact byteAt_nat hv) (by omega)
      clear hv
      go_wp2
      go_region
      have h := (Hk.store 2 rfl (o := q) (u := u64v (UInt64.ofNat (leTo b (8 * (q : Int)) (m + 1))))).upd_mk (by simp)
      rw [u64_set, HN.out] at h
      rw [HV.out]
      have H5 : St w [] (wr.setCell ⟨g3, q, none⟩ (.int .u64 ((UInt64.ofNat (leTo b (8 * (q : Int)) (m + 1))).toNat : Int))).drew _ := h.drew
      clear h HV HG HN a0 b0 bf
      go_wp2
      go_roundw
      case rel => exact ⟨k + 1, by omega, by go_num, H5⟩
      case measure => simp [intOf]; omega
    · obtain rfl : k = 200 := by omega
      rw [kPart_end] at Hk
      rw [show ((200:Nat):Int) = 200 from rfl]
      go_wp2_with (first | (refine wpList_load_row rfl 92 (.tmp 3) rfl g3 rfl _ _ _ _ (Hk.blk 2 rfl) Try.underlying92 rfl (by rw [state24_size]; simp [kFrom_length]) ?_) | (refine wpList_store_mid rfl 92 (.tmp 2) (.tmp 25) rfl g2 0 _ rfl rfl (there_eq (Hk.there 1 rfl) (by simp [kFrom_length])) (by rw [state24_size]; simp [kFrom_length]) (all_oneCell_toArray (u64_one _)) ?_))
      have H4 := (Hk.storeAll 1 rfl (vs := (kFrom b).map u64v) (by simp [kFrom_length])).upd_mk (by simp)
      exact bodyPost_ret (results_cell_row rfl _ _ g2 92 ((kFrom b).map u64v).toArray _ _ rfl (H4.blk 1 rfl) Try.underlying92 rfl (by rw [state24_size]; simp [kFrom_length])) rfl ⟨rfl, H4.below⟩
end Go.Proofs.Ytgjlclihgpahbaa

namespace Go.Proofs.Ytgjlclihgpahbaa
open Go.RowKit
set_option linter.unusedVariables false
set_option maxRecDepth 100000

section
variable {w0 w : World} {F0 : List Nat} {E : Env}

set_option maxHeartbeats 2000000 in
theorem refPermute_w (l : Value) (r : Option (List RunT)) (m : Nat) (b : Int) (s : List UInt64) (H : St w0 F0 w E) (i : Nat) (hi : E i = some (ledR l r)) (hg : LW r m b) (hm : m ≤ 1000000000000) (hb : b ≤ 4611686018427387903) (hs : Hid (s.length = 25)) :
    Calls Try.prog 64 #[l, .agg (s.map u64v).toArray] w fun e w' => e = .returned (.agg ((kPerm s).map u64v).toArray) ∧ St w0 F0 w' (upd E i (ledR l (noteN r 3 200 1))) := by
  obtain ⟨F, HF, -, -, hback⟩ := H.frame1 i hi
  have HB := Lib.hid hback
  have H0 := HF.as1
  clear H hback HF
  go_enter Try.func64, Try.ntmps64
  go_wp2_with fail
  refine absorb_calls (H0 |>.allocAt 1 rfl w.heap.size rfl _ _ |>.push_mk rfl |>.allocAt 2 rfl (w.heap.size + 1) (by simp) _ _ |>.push_mk rfl) ?_
  intro w1 H1
  clear H0
  generalize w.heap.size + 1 = g2 at H1 ⊢
  generalize w.heap.size = g1 at H1 ⊢
  refine (refNote_w m b 3 200 H1 0 rfl hg hm hb).mono ?_
  rintro e w2 ⟨rfl, H2⟩
  replace H2 := H2.upd_mk (by simp)
  clear H1 hg hm hb
  go_wp2
  go_loopw [5] (fun i wr => ∃ k : Nat, k ≤ 24 ∧ i = .int .i64 k ∧ St w F wr (lay [ledR l (noteN r 3 200 1), .blk g1 92 ((kPermTo s k).map u64v), .blk g2 92 ((List.replicate 25 0).map u64v)])) (fun i _ => 24 - (intOf i).toNat)
  case atStart => exact ⟨0, by omega, rfl, H2⟩
  case round =>
    clear H2
    obtain ⟨k, hk, rfl, Hk⟩ := hrel
    by_cases hlt : k < 24
    · have HX : Hid ((kPermTo s k).length = 25) := by have := kPermTo_length s k; rw [hs.out] at this; exact this
      have HP : Hid (kPermTo s (k + 1) = kRound (kPermTo s k) (at64 kConsts k)) := rfl
      have HE := Lib.hid (rRound_eq (kPermTo s k) (at64 kConsts k) HX.out)
      have HY : Hid ((kRound (kPermTo s k) (at64 kConsts k)).length = 25) := by unfold Hid; rw [kRound_length, HX.out]
      generalize kPermTo s k = X at *
      generalize kRound X (at64 kConsts k) = Y at *
      have hk1 : (k : Int) < 24 := by omega
      have hU := Try.underlying92
      have hl : (Try.prog.info? 92).map (·.size) = some (X.map u64v).length := by rw [state24_size]; simp [HX.out]
      have H := Hk.drew
      go_wp2
      refine wp_region_held_drew (S := fun _ => True) (by kernel_rfl) trivial (fun hHeld => ?_)
      refine take_pure 1 (.int .i64 k) rfl (by kernel_rfl) (by kernel_rfl) (by kernel_rfl) (fun _ _ _ h => h) rfl (by intro w hSw; go_simp; try with_reducible rfl) trivial ?_
      try simp only [Act.put, List.setIfInBounds_toArray, List.set_cons_zero, List.set_cons_succ]
      refine wpAnyH_ready (rs := [0, 2]) (by kernel_rfl) (by simp) (AllReadyH.cons (drop_at rfl) (fun K hK => ?_) (AllReadyH.cons (drop_at rfl) (fun K hK => ?_) AllReadyH.nil))
      · rw [if_pos (by rfl)]
        refine wp_load_mid _ _ rfl g1 0 rfl (X.map u64v) _ (H.range 1 rfl) hU rfl hl ?_
        refine hK.out _ _ trivial (fun hHeld => ?_)
        clear hK K
        try simp only [Act.put, List.setIfInBounds_toArray, List.set_cons_zero, List.set_cons_succ]
        refine take_call 2 rfl (by kernel_rfl) (fun K hK => ?_)
        try go_simp
        refine (constant_any k hlt _).mono ?_
        rintro e w5 ⟨rfl, nq, rfl⟩
        replace H := H.drewN nq
        refine hK.out _ _ trivial (fun hHeld => ?_)
        clear hK K
        try simp only [Act.put, List.setIfInBounds_toArray, List.set_cons_zero, List.set_cons_succ]
        refine take_call 3 rfl (by kernel_rfl) (fun K hK => ?_)
        try go_simp
        replace H := Hk.drewN (1 + nq)
        refine (round_s X (at64 kConsts k) HX.out _).mono ?_
        rintro e w6 ⟨rfl, hb6⟩
        replace H := H.call hb6
        clear hb6
        rw [HE.out]
        refine hK.out _ _ trivial (fun hHeld => ?_)
        clear hK K
        try simp only [Act.put, List.setIfInBounds_toArray, List.set_cons_zero, List.set_cons_succ]
        refine take_call 4 rfl (by kernel_rfl) (fun K hK => ?_)
        rw [if_pos (by rfl)]
        refine wp_store_mid _ _ _ rfl g1 0 (Y.map u64v).toArray rfl rfl (there_eq (H.there 1 rfl) (by simp [HX.out, HY.out])) (by rw [state24_size]; simp [HY.out]) (all_oneCell_toArray (u64_one _)) ?_
        replace H := (H.storeAll 1 rfl (vs := Y.map u64v) (by simp [HX.out, HY.out])).upd_mk (by simp)
        refine hK.out _ _ trivial (fun hHeld => ?_)
        clear hK K
        try simp only [Act.put, List.setIfInBounds_toArray, List.set_cons_zero, List.set_cons_succ]
        refine wpAnyH_done (by kernel_rfl) ?_ _
        go_wp2
        go_roundw
        case rel => exact ⟨k + 1, by omega, by go_num, by rw [HP.out]; exact H⟩
        case measure => simp [intOf]; omega
      · try go_simp
        refine (constant_any k hlt _).mono ?_
        rintro e w5 ⟨rfl, nq, rfl⟩
        replace H := H.drewN nq
        refine hK.out _ _ trivial (fun hHeld => ?_)
        clear hK K
        try simp only [Act.put, List.setIfInBounds_toArray, List.set_cons_zero, List.set_cons_succ]
        refine take_call 0 rfl (by kernel_rfl) (fun K hK => ?_)
        rw [if_pos (by rfl)]
        refine wp_load_mid _ _ rfl g1 0 rfl (X.map u64v) _ (H.range 1 rfl) hU rfl hl ?_
        refine hK.out _ _ trivial (fun hHeld => ?_)
        clear hK K
        try simp only [Act.put, List.setIfInBounds_toArray, List.set_cons_zero, List.set_cons_succ]
        refine take_call 3 rfl (by kernel_rfl) (fun K hK => ?_)
        try go_simp
        replace H := Hk.drewN (1 + nq)
        refine (round_s X (at64 kConsts k) HX.out _).mono ?_
        rintro e w6 ⟨rfl, hb6⟩
        replace H := H.call hb6
        clear hb6
        rw [HE.out]
        refine hK.out _ _ trivial (fun hHeld => ?_)
        clear hK K
        try simp only [Act.put, List.setIfInBounds_toArray, List.set_cons_zero, List.set_cons_succ]
        refine take_call 4 rfl (by kernel_rfl) (fun K hK => ?_)
        rw [if_pos (by rfl)]
        refine wp_store_mid _ _ _ rfl g1 0 (Y.map u64v).toArray rfl rfl (there_eq (H.there 1 rfl) (by simp [HX.out, HY.out])) (by rw [state24_size]; simp [HY.out]) (all_oneCell_toArray (u64_one _)) ?_
        replace H := (H.storeAll 1 rfl (vs := Y.map u64v) (by simp [HX.out, HY.out])).upd_mk (by simp)
        refine hK.out _ _ trivial (fun hHeld => ?_)
        clear hK K
        try simp only [Act.put, List.setIfInBounds_toArray, List.set_cons_zero, List.set_cons_succ]
        refine wpAnyH_done (by kernel_rfl) ?_ _
        go_wp2
        go_roundw
        case rel => exact ⟨k + 1, by omega, by go_num, by rw [HP.out]; exact H⟩
        case measure => simp [intOf]; omega
    · obtain rfl : k = 24 := by omega
      rw [show ((24:Nat):Int) = 24 from rfl]
      have HX : Hid ((kPermTo s 24).length = 25) := by have := kPermTo_length s 24; rw [hs.out] at this; exact this
      have HE : Hid (kPermTo s 24 = kPerm s) := rfl
      rw [HE.out] at Hk HX
      go_wp2_with (first | (refine wpList_load_row rfl 92 (.tmp 3) rfl g1 rfl _ _ _ _ (Hk.blk 1 rfl) Try.underlying92 rfl (by rw [state24_size]; simp [HX.out]) ?_) | (refine wpList_store_mid rfl 92 (.tmp 4) (.tmp 17) rfl g2 0 _ rfl rfl (there_eq (Hk.there 2 rfl) (by simp [HX.out])) (by rw [state24_size]; simp [HX.out]) (all_oneCell_toArray (u64_one _)) ?_))
      have H4 := (Hk.storeAll 2 rfl (vs := (kPerm s).map u64v) (by simp [HX.out])).upd_mk (by simp)
      exact bodyPost_ret (results_cell_row rfl _ _ g2 92 ((kPerm s).map u64v).toArray _ _ rfl (H4.blk 2 rfl) Try.underlying92 rfl (by rw [state24_size]; simp [HX.out])) rfl ⟨rfl, HB.out _ _ (H4.to1 rfl)⟩

end

end Go.Proofs.Ytgjlclihgpahbaa
