/- SHA-512: Write, walked. -/
import Derived.Test.YthieegmmbjjcbaaSh5S
import Derived.Laws.Cover3
namespace Go.Proofs.Ythieegmmbjjcbaa
open Go.RowKit
set_option linter.unusedVariables false
set_option maxRecDepth 100000
attribute [local irreducible] comp5 hTo

theorem zero128 : ∀ w, (zeroValue 71).run Try.prog w = .ok (.agg (List.replicate 128 (.int .u8 0)).toArray) w := by intro w; kernel_rfl
theorem rep128 : List.replicate 128 (Value.int .u8 0) = (List.replicate 128 (0 : UInt8)).map vb := by rw [List.map_replicate]; rfl

/-- a whole row loaded, one step of a region -/
theorem step_load_mid {P : Program} {ops : Array Oper} {op : Oper} {a : Act} {w : World} {K : Act → World → Prop} {Q : Exit → Act → World → Prop} {X : Prop} (hgd : op.guard = none) (ty : TypeId) (x : Operand) (ho : op.op = .load ty x)
    (b o : Nat) (hx : a.eval x = .pointer (some ⟨b, o, none⟩)) (cs : List Value) (d : TypeDesc) (hc : w.rangeAt b o cs)
    (hu : P.underlying ty = some d) (hd : d.isRow = true) (hi : (P.info? ty).map (·.size) = some cs.length)
    (h : K (a.put op.dst (.agg cs.toArray)) w) : if Region.wanted op (yielded ops a.tmps) = true then Oper.wp P op a w K Q else X := by
  rw [if_pos (by simp [Region.wanted, hgd])]
  exact wp_load_mid ty x ho b o hx cs d hc hu hd hi h

theorem hold_copy {P : Program} {ops : Array Oper} {rest : List Oper} {o : Oper} {a : Act} {Q : Exit → Act → World → Prop} {w : World} {d s : Operand} {dT sT : TypeId} (ho : o.op = .call { callee := .builtin .copy, args := #[d, s], argTypes := #[dT, sT] }) (h : Hid (wpList P ops Q (o :: rest) a w)) : wpList P ops Q (o :: rest) a w := h

section
variable {w0 w : World} {F0 : List Nat} {E : Env}

theorem s5_front {g : Nat} {T : TypeId} {h : List UInt64} {n : Nat} {b : List UInt8} (H : St w0 F0 w E) (j : Nat) (hj : E j = some (.blk g T (s5Vs h n b))) (hh : h.length = 8) : w.rangeAt g 1 (h.map u64v) := fun k v hv => H.cell j hj (s5Vs_front hh hv)
theorem s5_back {g : Nat} {T : TypeId} {h : List UInt64} {n : Nat} {b : List UInt8} (H : St w0 F0 w E) (j : Nat) (hj : E j = some (.blk g T (s5Vs h n b))) (hh : h.length = 8) : w.rangeAt g 10 (b.map vb) := fun k v hv => H.cell j hj (s5Vs_back hh hv)

set_option maxHeartbeats 8000000 in
theorem s5Write_s (l : Value) (r : Option (List RunT)) (m : Nat) (c : Int) (g : Nat) (M : List UInt8) (A : Option Addr) (n cA : Nat) (p : List UInt8) (H : St w0 F0 w E) (i j : Nat) (hij : i ≠ j) (hi : E i = some (led l r)) (hj : E j = some (.blk g 73 (s5S M))) (hg : LW r m c) (hm : m ≤ 999999999) (hc : c ≤ 400000000000000000)
    (hR : ∀ w' X Y, St w0 F0 w' (upd (upd E i X) j Y) → Rd w' 1 A n (p.map vb)) (hcap : n ≤ cA) (hn : M.length + n ≤ 281474976710656) :
    Calls Try.prog 22 #[lptr g, l, .slice A n cA] w fun e w' => e = .returned (.int .i64 0) ∧ St w0 F0 w' (upd (upd E i (led l (noteN r 2 128 ((M.length + n) / 128 - M.length / 128)))) j (.blk g 73 (s5S (M ++ p)))) := by
  have hl : p.length = n := by have h := (hR w _ _ (by rw [upd_id hi, upd_id hj]; exact H)).1; simpa using h
  obtain ⟨F, HF, -, -, hback⟩ := H.frame2 i j hij hi hj
  have HB := Lib.hid hback
  have HR0 : Hid (∀ w' X Y, St w F w' (lay [X, Y]) → Rd w' 1 A n (p.map vb)) := fun w' X Y h => hR w' X Y (hback w' X Y (h.to2 rfl rfl))
  have HL := Lib.hid hl
  replace HF := HF.as2
  clear H hback hi hj hR hl hij
  have c0 := HF.cell 1 rfl (o := 0) s5Vs_made
  go_enter Try.func22, Try.ntmps22
  go_wp2_with fail
  refine (s5Is_yes g w c0).mono ?_
  rintro e w1 ⟨rfl, rfl⟩
  unfold lptr
  clear c0
  go_wp2
  go_loopw [2] (fun s wr => ∃ (t : Nat) (A' : Option Addr) (c' : Nat), t ≤ n ∧ s = .slice A' (n - t) c' ∧ n - t ≤ c' ∧ Hid (∀ w' X Y, St w F w' (lay [X, Y]) → Rd w' 1 A' (n - t) ((p.drop t).map vb)) ∧ St w F wr (lay [led l (noteN r 2 128 ((M.length + t) / 128 - M.length / 128)), .blk g 73 (s5S (M ++ p.take t))])) (fun s _ => match s with | .slice _ k _ => k | _ => 0)
  case atStart => exact ⟨0, A, cA, Nat.zero_le _, rfl, hcap, HR0.out, by rw [Nat.add_zero, Nat.sub_self, noteN_zero, List.take_zero, List.append_nil]; exact HF⟩
  case round =>
    clear HF HR0
    obtain ⟨t, A', c', ht, rfl, hc', HR, H⟩ := hrel
    by_cases hlt : t < n
    · obtain ⟨b, o, rfl, -, -⟩ := (HR.out wr _ _ H).flat (by omega) (by omega)
      obtain ⟨N, hN⟩ : ∃ N, M ++ p.take t = N := ⟨_, rfl⟩
      have hNl : N.length = M.length + t := by rw [← hN, List.length_append, List.length_take, HL.out]; omega
      rw [hN, ← hNl] at H
      obtain ⟨q, hq⟩ : ∃ q, min (128 - N.length % 128) (n - t) = q := ⟨_, rfl⟩
      obtain ⟨x, hx⟩ : ∃ x, (p.drop t).take q = x := ⟨_, rfl⟩
      have ha : N.length % 128 < 128 := Nat.mod_lt _ (by omega)
      have hxl : x.length = q := by rw [← hx, List.length_take, List.length_drop, HL.out]; omega
      have hq1 : 1 ≤ q := by omega
      have hq2 : q ≤ n - t := by omega
      have hq3 : N.length % 128 + q ≤ 128 := by omega
      have HN2 : Hid (M ++ p.take (t + q) = N ++ x) := by unfold Hid; rw [take_more, ← List.append_assoc, hN, hx]
      have HXX := Lib.hid hx
      have HXL := Lib.hid hxl
      have HNL := Lib.hid hNl
      have HQ := Lib.hid hq
      have hnb : N.length + n ≤ 600000000000000 := by omega
      clear hx hxl hNl hN hq
      have hn8 := s5Vs_n (n := N.length) (b := w5' N) (h5_length N)
      have c9 := H.cell 1 rfl hn8
      have hgo : ((n - t : Nat) : Int) > 0 := by omega
      obtain ⟨a, haa⟩ : ∃ a, N.length % 128 = a := ⟨_, rfl⟩
      rw [haa] at hq3 ha
      have HA := Lib.hid haa
      have hma : (N.length : Int) % 128 = (a : Int) := by omega
      have HMA := Lib.hid hma
      clear haa hma
      have ha64 : ¬ 128 = a := by omega
      have ha2 : (a : Int) ≤ 128 := by omega
      have HNE : Hid ((M.length + t) / 128 = N.length / 128) := by unfold Hid; rw [HNL.out]
      rw [← HNE.out] at H
      replace H : St w F _ (lay [led l (noteN r 2 128 ((M.length + t) / 128 - M.length / 128)), .blk g 73 (s5Vs (h5 N) N.length (w5' N))]) := H
      go_upto_region 5 with fail
      rw [HMA.out]
      clear hn8 c9
      go_wp2_with (with_reducible refine hold_copy rfl ?_)
      refine Lib.hid ?_
      refine wpList_copy_st rfl (.tmp 25) (.tmp 26) _ _ rfl 5 Try.underlying22 u8_size' _ _ _ _ _ _ (by rfl) (by rfl) H 1 g (10 + a) _ _ (by rfl) (x.map vb) ?_ ?_ ?_ (vb_one _) ?_
      · rw [List.length_map, HXL.out, ← HQ.out, HA.out]; exact Nat.min_comm _ _
      · exact fun _ => ⟨rfl, ⟨b, o, none⟩, rfl, fun j v hv => (((HR.out _ _ _ H).2 (by omega)).elim fun ad h => by obtain ⟨e, -, h3⟩ := h; injection e with e; subst e; exact h3 j v (by rw [← HXX.out, List.map_take] at hv; exact below_take hv))⟩
      · rw [List.length_map, HXL.out, s5Vs_length (h5_length N) (w5_length N)]; omega
      intro w5 H5
      replace H5 := H5.upd_mk (by simp)
      have hs := s5Vs_setb (h := h5 N) (n := N.length) (b := w5' N) (h5_length N) (w5_length N) x a (by rw [HXL.out]; omega)
      rw [List.append_assoc] at hs
      replace H5 : St w F w5 (lay [led l (noteN r 2 128 ((M.length + t) / 128 - M.length / 128)), .blk g 73 ((s5Vs (h5 N) N.length (w5' N)).take (10 + a) ++ (x.map vb ++ (s5Vs (h5 N) N.length (w5' N)).drop (10 + a + (x.map vb).length)))]) := H5
      rw [hs] at H5
      clear hs H
      rw [show (x.map vb).length = q by rw [List.length_map, HXL.out]]
      have hqc : (q : Int) ≤ c' := by omega
      have hqn : (q : Int) ≤ ((n - t : Nat) : Int) := by omega
      have HRR : Hid (∀ w' X Y, St w F w' (lay [X, Y]) → Rd w' 1 (if c' = q then some ⟨b, o, none⟩ else some ⟨b, o + q, none⟩) (n - t - q) (((p.drop t).drop q).map vb)) := fun w' X Y h => Rd.drop_if (HR.out w' X Y h) hq2 hc'
      go_upto_region 7 with fail
      generalize (if c' = q then some (⟨b, o, none⟩ : Addr) else some ⟨b, o + q, none⟩) = A2 at HRR ⊢
      have c9 := H5.cell 1 rfl (s5Vs_n (n := N.length) (b := putAt (w5' N) a x) (h5_length N))
      have f9 := H5.free 1 rfl 9
      have H6 := (H5.store 1 rfl (o := 9) (u := .int .u64 ((N.length + q : Nat) : Int))).upd_mk (by simp)
      replace H6 : St w F _ (lay [led l (noteN r 2 128 ((M.length + t) / 128 - M.length / 128)), .blk g 73 ((s5Vs (h5 N) N.length (putAt (w5' N) a x)).set 9 (.int .u64 ((N.length + q : Nat) : Int)))]) := H6
      rw [s5Vs_setn (h5_length N)] at H6
      rw [Int.natCast_add] at H6
      clear H5
      by_cases hf : a + q = 128
      · have h0 : ((a : Int) + (q : Int) == 128) = true := by simp; omega
        have hfx : Hid (N.length % 128 + x.length = 128) := by unfold Hid; rw [HA.out, HXL.out]; exact hf
        have hS : Hid (s5S (N ++ x) = s5Vs (comp5 (h5 N) (putAt (w5' N) a x)) (N.length + q) (List.replicate 128 0)) := by
          unfold Hid s5S
          rw [h5_next hfx.out, w5_next hfx.out, List.length_append, HXL.out, HA.out]
        have hC : Hid ((M.length + t) / 128 - M.length / 128 + 1 = (M.length + (t + q)) / 128 - M.length / 128) := by
          have e := (div_next (B := 128) (n := N.length) (k := q) (by omega) (by rw [HA.out]; exact hf)).1
          rw [HNL.out] at e
          rw [show M.length + (t + q) = M.length + t + q by omega, e]
          have : M.length / 128 ≤ (M.length + t) / 128 := Nat.div_le_div_right (by omega)
          unfold Hid; omega
        have hcb : (M.length + t) / 128 - M.length / 128 ≤ 600000000000000 := by
          have h1 : (M.length + t) / 128 ≤ M.length + t := Nat.div_le_self _ _
          have := HNL.out
          omega
        have hCL : Hid ((comp5 (h5 N) (putAt (w5' N) a x)).length = 8) := comp5_length _ _
        have hPL : Hid ((putAt (w5' N) a x).length = 128) := by unfold Hid; rw [put_length (by rw [w5_length, HXL.out]; omega), w5_length]
        have HH5 : Hid ((h5 N).length = 8) := h5_length N
        clear hf
        generalize putAt (w5' N) a x = wb at H6 hPL hS hCL c9
        go_upto_region 9 with fail
        clear c9 f9
        have harr : ∀ w : World, (Instr.arrayAt 71 (.slice (some ⟨g, 10, none⟩) 128 128)).run Try.prog w = .ok (.pointer (some ⟨g, 10, none⟩)) w := fun w => run_arrayAt (P := Try.prog) w 71 5 128 _ _ _ Try.underlying71 (Nat.le_refl _)
        refine wp_region_held_drew (S := fun w' : World => True) (by kernel_rfl) ?_ (fun hHeld => ?_)
        · exact trivial
        refine takeV 0 rfl (by intro w h; clear h; go_simp; try with_reducible rfl) (by kernel_rfl) (by kernel_rfl) (by kernel_rfl) (by exact fun _ _ _ h => h) (by rfl) (by assumption) ?_
        try simp only [Act.put, List.setIfInBounds_toArray, List.set_cons_zero, List.set_cons_succ]
        refine takeV 1 rfl (by intro w h; clear h; go_simp; try with_reducible rfl) (by kernel_rfl) (by kernel_rfl) (by kernel_rfl) (by exact fun _ _ _ h => h) (by rfl) (by assumption) ?_
        try simp only [Act.put, List.setIfInBounds_toArray, List.set_cons_zero, List.set_cons_succ]
        refine takeV 2 rfl (by intro w h; clear h; go_simp; try with_reducible rfl) (by kernel_rfl) (by kernel_rfl) (by kernel_rfl) (by exact fun _ _ _ h => h) (by rfl) (by assumption) ?_
        try simp only [Act.put, List.setIfInBounds_toArray, List.set_cons_zero, List.set_cons_succ]
        refine takeV 3 rfl (by intro w h; clear h; go_simp; try with_reducible rfl) (by kernel_rfl) (by kernel_rfl) (by kernel_rfl) (by exact fun _ _ _ h => h) (by rfl) (by assumption) ?_
        try simp only [Act.put, List.setIfInBounds_toArray, List.set_cons_zero, List.set_cons_succ]
        refine takeV 4 rfl (by intro w h; clear h; go_simp; try with_reducible rfl) (by kernel_rfl) (by kernel_rfl) (by kernel_rfl) (by exact fun _ _ _ h => h) (by rfl) (by assumption) ?_
        try simp only [Act.put, List.setIfInBounds_toArray, List.set_cons_zero, List.set_cons_succ]
        refine takeV 6 rfl (by intro w h; clear h; go_simp; try with_reducible rfl) (by kernel_rfl) (by kernel_rfl) (by kernel_rfl) (by exact fun _ _ _ h => h) (by rfl) (by assumption) ?_
        try simp only [Act.put, List.setIfInBounds_toArray, List.set_cons_zero, List.set_cons_succ]
        refine takeV 7 rfl (by intro w h; clear h; go_simp; try with_reducible rfl) (by kernel_rfl) (by kernel_rfl) (by kernel_rfl) (by exact fun _ _ _ h => h) (by rfl) (by assumption) ?_
        try simp only [Act.put, List.setIfInBounds_toArray, List.set_cons_zero, List.set_cons_succ]
        refine takeV 8 rfl (by intro w h; clear h; go_simp; try with_reducible rfl) (by kernel_rfl) (by kernel_rfl) (by kernel_rfl) (by exact fun _ _ _ h => h) (by rfl) (by assumption) ?_
        try simp only [Act.put, List.setIfInBounds_toArray, List.set_cons_zero, List.set_cons_succ]
        refine takeV 9 rfl (by intro w h; clear h; go_simp; try with_reducible rfl) (by kernel_rfl) (by kernel_rfl) (by kernel_rfl) (by exact fun _ _ _ h => h) (by rfl) (by assumption) ?_
        try simp only [Act.put, List.setIfInBounds_toArray, List.set_cons_zero, List.set_cons_succ]
        refine takeV 10 rfl (by intro w h; clear h; go_simp; try with_reducible rfl) (by kernel_rfl) (by kernel_rfl) (by kernel_rfl) (by exact fun _ _ _ h => h) (by rfl) (by assumption) ?_
        try simp only [Act.put, List.setIfInBounds_toArray, List.set_cons_zero, List.set_cons_succ]
        clear harr
        replace H6 := H6.drew
        generalize (w5.setCell ⟨g, 9, none⟩ (Value.int IntKind.u64 ((N.length : Int) + (q : Int)))).drew = w6 at H6 ⊢
        refine takeTwo 5 11 rfl rfl (by kernel_rfl) (fun K hK => ?_) (fun K hK => ?_)
        · refine step_load_mid rfl 69 (.tmp 48) rfl g 1 (by rfl) ((h5 N).map u64v) _ (s5_front H6 1 rfl HH5.out) Try.underlying69 rfl (by rw [a8_size, List.length_map, HH5.out]) ?_
          refine hK.out _ _ trivial (fun hHeld => ?_)
          clear hK K
          try simp only [Act.put, List.setIfInBounds_toArray, List.set_cons_zero, List.set_cons_succ]
          refine take_call 11 rfl (by kernel_rfl) (fun K hK => ?_)
          refine step_load_mid rfl 71 (.tmp 54) rfl g 10 (by rfl) (wb.map vb) _ (s5_back H6 1 rfl HH5.out) Try.underlying71 rfl (by rw [b128_size, List.length_map, hPL.out]) ?_
          refine hK.out _ _ trivial (fun hHeld => ?_)
          clear hK K
          try simp only [Act.put, List.setIfInBounds_toArray, List.set_cons_zero, List.set_cons_succ]
          refine take_call 12 rfl (by kernel_rfl) (fun K hK => ?_)
          try go_simp
          refine (sh5Comp_s l _ (m + 1) (c + (((M.length + t) / 128 - M.length / 128 : Nat) : Int)) (h5 N) wb H6 0 rfl (hg.noteN 2 128 _) (by omega) (by omega) HH5.out hPL.out).mono ?_
          rintro e w7 ⟨rfl, H7⟩
          rw [noteN_noteN, hC.out, upd_laid5 (by simp)] at H7
          refine hK.out _ _ trivial (fun hHeld => ?_)
          clear hK K
          try simp only [Act.put, List.setIfInBounds_toArray, List.set_cons_zero, List.set_cons_succ]
          refine takeV 13 rfl (by intro w h; clear h; go_simp; try with_reducible rfl) (by kernel_rfl) (by kernel_rfl) (by kernel_rfl) (by exact fun _ _ _ h => h) (by rfl) (by assumption) ?_
          try simp only [Act.put, List.setIfInBounds_toArray, List.set_cons_zero, List.set_cons_succ]
          refine takeV 14 rfl (by intro w h; clear h; go_simp; try with_reducible rfl) (by kernel_rfl) (by kernel_rfl) (by kernel_rfl) (by exact fun _ _ _ h => h) (by rfl) (by assumption) ?_
          try simp only [Act.put, List.setIfInBounds_toArray, List.set_cons_zero, List.set_cons_succ]
          refine take_call 15 rfl (by kernel_rfl) (fun K hK => ?_)
          refine step_store_mid rfl 69 (.tmp 58) (.tmp 56) rfl g 1 ((comp5 (h5 N) wb).map u64v).toArray (by rfl) (by rfl) (by have ht := H7.thereMid 1 rfl 1 8 (by rw [s5Vs_length HH5.out hPL.out]; omega); rw [List.size_toArray, List.length_map, hCL.out]; exact ht) (by rw [a8_size, List.size_toArray, List.length_map, hCL.out]) (all_oneCell_toArray (u64_one _)) ?_
          have H8 := (H7.storeMid5 1 rfl 1 (vs := (comp5 (h5 N) wb).map u64v) (by rw [s5Vs_length HH5.out hPL.out, List.length_map, hCL.out]; omega)).upd_mk (by simp)
          clear H7
          replace H8 : St w F (w7.setCells g 1 ((comp5 (h5 N) wb).map u64v)) (lay [led l (noteN r 2 128 ((M.length + (t + q)) / 128 - M.length / 128)), .blk g 73 ((s5Vs (h5 N) (N.length + q) wb).take 1 ++ (comp5 (h5 N) wb).map u64v ++ (s5Vs (h5 N) (N.length + q) wb).drop (1 + ((comp5 (h5 N) wb).map u64v).length))]) := H8
          rw [s5Vs_seth HH5.out _ hCL.out] at H8
          show K _ (w7.setCells g 1 ((comp5 (h5 N) wb).map u64v))
          generalize w7.setCells g 1 ((comp5 (h5 N) wb).map u64v) = w8 at H8 ⊢
          refine hK.out _ _ trivial (fun hHeld => ?_)
          clear hK K
          try simp only [Act.put, List.setIfInBounds_toArray, List.set_cons_zero, List.set_cons_succ]
          refine wpAnyH_done (by kernel_rfl) ?_ _
          have hz128 := zero128
          rw [rep128] at hz128
          generalize hzz : (List.replicate 128 (0 : UInt8)).map vb = zs at hz128
          have HZZ := Lib.hid hzz
          clear hzz
          go_wp2_with (with_reducible refine hold_store 71 (.tmp 62) (.tmp 60) (by rfl) ?_)
          refine Lib.hid ?_
          refine wpList_store_mid rfl 71 (.tmp 62) (.tmp 60) rfl g 10 zs.toArray (by rfl) (by rfl) (by have ht := H8.thereMid 1 rfl 10 128 (by rw [s5Vs_length hCL.out hPL.out]; omega); rw [← HZZ.out]; exact ht) (by rw [b128_size, ← HZZ.out]; rfl) (all_oneCell_toArray (by rw [← HZZ.out]; exact vb_one _)) ?_
          show wpList Try.prog _ _ [] _ (w8.setCells g 10 zs)
          clear hz128
          have H9 := (H8.storeMid5 1 rfl 10 (vs := zs) (by rw [s5Vs_length hCL.out hPL.out, ← HZZ.out, List.length_map, List.length_replicate]; omega)).upd_mk (by simp)
          clear H8
          generalize w8.setCells g 10 zs = w9 at H9 ⊢
          rw [← HZZ.out] at H9
          have hz := s5Vs_setb (h := comp5 (h5 N) wb) (n := N.length + q) (b := wb) hCL.out hPL.out (List.replicate 128 0) 0 (by rw [List.length_replicate]; omega)
          replace H9 : St w F w9 (lay [led l (noteN r 2 128 ((M.length + (t + q)) / 128 - M.length / 128)), .blk g 73 ((s5Vs (comp5 (h5 N) wb) (N.length + q) wb).take (10 + 0) ++ (List.replicate 128 (0 : UInt8)).map vb ++ (s5Vs (comp5 (h5 N) wb) (N.length + q) wb).drop (10 + 0 + ((List.replicate 128 (0 : UInt8)).map vb).length))]) := H9
          rw [hz, putAt_all (by rw [List.length_replicate, hPL.out]), ← hS.out, ← HN2.out] at H9
          clear hz HZZ
          simp only [Act.put]
          go_wp2
          go_roundw
          case rel => exact ⟨t + q, _, c' - q, by omega, by rw [← Nat.sub_sub], by omega, fun w' X Y h => by rw [← Nat.sub_sub, ← List.drop_drop]; exact HRR.out w' X Y h, H9⟩
          case measure => show n - t - q < n - t; omega
        · refine step_load_mid rfl 71 (.tmp 54) rfl g 10 (by rfl) (wb.map vb) _ (s5_back H6 1 rfl HH5.out) Try.underlying71 rfl (by rw [b128_size, List.length_map, hPL.out]) ?_
          refine hK.out _ _ trivial (fun hHeld => ?_)
          clear hK K
          try simp only [Act.put, List.setIfInBounds_toArray, List.set_cons_zero, List.set_cons_succ]
          refine take_call 5 rfl (by kernel_rfl) (fun K hK => ?_)
          refine step_load_mid rfl 69 (.tmp 48) rfl g 1 (by rfl) ((h5 N).map u64v) _ (s5_front H6 1 rfl HH5.out) Try.underlying69 rfl (by rw [a8_size, List.length_map, HH5.out]) ?_
          refine hK.out _ _ trivial (fun hHeld => ?_)
          clear hK K
          try simp only [Act.put, List.setIfInBounds_toArray, List.set_cons_zero, List.set_cons_succ]
          refine take_call 12 rfl (by kernel_rfl) (fun K hK => ?_)
          try go_simp
          refine (sh5Comp_s l _ (m + 1) (c + (((M.length + t) / 128 - M.length / 128 : Nat) : Int)) (h5 N) wb H6 0 rfl (hg.noteN 2 128 _) (by omega) (by omega) HH5.out hPL.out).mono ?_
          rintro e w7 ⟨rfl, H7⟩
          rw [noteN_noteN, hC.out, upd_laid5 (by simp)] at H7
          refine hK.out _ _ trivial (fun hHeld => ?_)
          clear hK K
          try simp only [Act.put, List.setIfInBounds_toArray, List.set_cons_zero, List.set_cons_succ]
          refine takeV 13 rfl (by intro w h; clear h; go_simp; try with_reducible rfl) (by kernel_rfl) (by kernel_rfl) (by kernel_rfl) (by exact fun _ _ _ h => h) (by rfl) (by assumption) ?_
          try simp only [Act.put, List.setIfInBounds_toArray, List.set_cons_zero, List.set_cons_succ]
          refine takeV 14 rfl (by intro w h; clear h; go_simp; try with_reducible rfl) (by kernel_rfl) (by kernel_rfl) (by kernel_rfl) (by exact fun _ _ _ h => h) (by rfl) (by assumption) ?_
          try simp only [Act.put, List.setIfInBounds_toArray, List.set_cons_zero, List.set_cons_succ]
          refine take_call 15 rfl (by kernel_rfl) (fun K hK => ?_)
          refine step_store_mid rfl 69 (.tmp 58) (.tmp 56) rfl g 1 ((comp5 (h5 N) wb).map u64v).toArray (by rfl) (by rfl) (by have ht := H7.thereMid 1 rfl 1 8 (by rw [s5Vs_length HH5.out hPL.out]; omega); rw [List.size_toArray, List.length_map, hCL.out]; exact ht) (by rw [a8_size, List.size_toArray, List.length_map, hCL.out]) (all_oneCell_toArray (u64_one _)) ?_
          have H8 := (H7.storeMid5 1 rfl 1 (vs := (comp5 (h5 N) wb).map u64v) (by rw [s5Vs_length HH5.out hPL.out, List.length_map, hCL.out]; omega)).upd_mk (by simp)
          clear H7
          replace H8 : St w F (w7.setCells g 1 ((comp5 (h5 N) wb).map u64v)) (lay [led l (noteN r 2 128 ((M.length + (t + q)) / 128 - M.length / 128)), .blk g 73 ((s5Vs (h5 N) (N.length + q) wb).take 1 ++ (comp5 (h5 N) wb).map u64v ++ (s5Vs (h5 N) (N.length + q) wb).drop (1 + ((comp5 (h5 N) wb).map u64v).length))]) := H8
          rw [s5Vs_seth HH5.out _ hCL.out] at H8
          show K _ (w7.setCells g 1 ((comp5 (h5 N) wb).map u64v))
          generalize w7.setCells g 1 ((comp5 (h5 N) wb).map u64v) = w8 at H8 ⊢
          refine hK.out _ _ trivial (fun hHeld => ?_)
          clear hK K
          try simp only [Act.put, List.setIfInBounds_toArray, List.set_cons_zero, List.set_cons_succ]
          refine wpAnyH_done (by kernel_rfl) ?_ _
          have hz128 := zero128
          rw [rep128] at hz128
          generalize hzz : (List.replicate 128 (0 : UInt8)).map vb = zs at hz128
          have HZZ := Lib.hid hzz
          clear hzz
          go_wp2_with (with_reducible refine hold_store 71 (.tmp 62) (.tmp 60) (by rfl) ?_)
          refine Lib.hid ?_
          refine wpList_store_mid rfl 71 (.tmp 62) (.tmp 60) rfl g 10 zs.toArray (by rfl) (by rfl) (by have ht := H8.thereMid 1 rfl 10 128 (by rw [s5Vs_length hCL.out hPL.out]; omega); rw [← HZZ.out]; exact ht) (by rw [b128_size, ← HZZ.out]; rfl) (all_oneCell_toArray (by rw [← HZZ.out]; exact vb_one _)) ?_
          show wpList Try.prog _ _ [] _ (w8.setCells g 10 zs)
          clear hz128
          have H9 := (H8.storeMid5 1 rfl 10 (vs := zs) (by rw [s5Vs_length hCL.out hPL.out, ← HZZ.out, List.length_map, List.length_replicate]; omega)).upd_mk (by simp)
          clear H8
          generalize w8.setCells g 10 zs = w9 at H9 ⊢
          rw [← HZZ.out] at H9
          have hz := s5Vs_setb (h := comp5 (h5 N) wb) (n := N.length + q) (b := wb) hCL.out hPL.out (List.replicate 128 0) 0 (by rw [List.length_replicate]; omega)
          replace H9 : St w F w9 (lay [led l (noteN r 2 128 ((M.length + (t + q)) / 128 - M.length / 128)), .blk g 73 ((s5Vs (comp5 (h5 N) wb) (N.length + q) wb).take (10 + 0) ++ (List.replicate 128 (0 : UInt8)).map vb ++ (s5Vs (comp5 (h5 N) wb) (N.length + q) wb).drop (10 + 0 + ((List.replicate 128 (0 : UInt8)).map vb).length))]) := H9
          rw [hz, putAt_all (by rw [List.length_replicate, hPL.out]), ← hS.out, ← HN2.out] at H9
          clear hz HZZ
          simp only [Act.put]
          go_wp2
          go_roundw
          case rel => exact ⟨t + q, _, c' - q, by omega, by rw [← Nat.sub_sub], by omega, fun w' X Y h => by rw [← Nat.sub_sub, ← List.drop_drop]; exact HRR.out w' X Y h, H9⟩
          case measure => show n - t - q < n - t; omega
      · have h0 : ((a : Int) + (q : Int) == 128) = false := by simp; omega
        have hfx : Hid (N.length % 128 + x.length < 128) := by unfold Hid; rw [HA.out, HXL.out]; omega
        have hS : Hid (s5S (N ++ x) = s5Vs (h5 N) (N.length + q) (putAt (w5' N) a x)) := by
          unfold Hid s5S
          rw [h5_stay hfx.out, ← w5_stay hfx.out, List.length_append, HXL.out, HA.out]
        have hC : Hid ((M.length + t) / 128 - M.length / 128 = (M.length + (t + q)) / 128 - M.length / 128) := by
          have e := (div_stay (B := 128) (n := N.length) (k := q) (by rw [HA.out]; omega)).1
          rw [HNL.out] at e
          unfold Hid
          rw [show M.length + (t + q) = M.length + t + q by omega, e]
        rw [← hS.out, hC.out, ← HN2.out] at H6
        have h1 : ¬ ((a : Int) + (q : Int) = 128) := by omega
        go_wp2
        go_roundw
        case rel => exact ⟨t + q, _, c' - q, by omega, by rw [← Nat.sub_sub], by omega, fun w' X Y h => by rw [← Nat.sub_sub, ← List.drop_drop]; exact HRR.out w' X Y h, H6⟩
        case measure => show n - t - q < n - t; omega
    · obtain rfl : t = n := by omega
      have hgo : ¬ ((t - t : Nat) : Int) > 0 := by omega
      rw [show p.take t = p from List.take_of_length_le (by rw [HL.out]; exact Nat.le_refl _)] at H
      go_wp2
      go_ret
      exact ⟨rfl, HB.out _ _ _ (H.to2 rfl rfl)⟩
end
end Go.Proofs.Ythieegmmbjjcbaa
