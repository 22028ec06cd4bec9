/- The law SkelPublic, walked. -/
import Derived.Test.YtgfhnbjpdhdhgaaSkPubA
import Derived.Lib.MinMax
namespace Go.Proofs.Ytgfhnbjpdhdhgaa
open Go.RowKit
set_option linter.unusedVariables false

theorem St.rdBlk {w0 w : World} {F0 : List Nat} {E : Env} {g : Nat} {T : TypeId} {cs : List Value} (H : St w0 F0 w E) (k : Nat) (hk : E k = some (.blk g T cs)) (size n : Nat) (hl : cs.length = n * size) : Rd w size (some ⟨g, 0, none⟩) n cs :=
  ⟨hl, fun _ => ⟨_, rfl, H.lt k hk, fun j u hu => by rw [Addr.add_mid, Nat.zero_add]; exact H.cell k hk hu⟩⟩
theorem take_two {P : Program} {l : List Oper} {Q : Exit → Act → World → Prop} {md : Region.Mode} {S : World → Prop} {o o' : Oper} {rest rest' : List Oper} {fuel : Nat} {listed : Array Bool} {a : Act} {w : World} (i j : Nat) (hi : l.drop i = o :: rest) (hj : l.drop j = o' :: rest') (hr : Region.ready md l.toArray listed = [i, j])
    (h : ∀ K' : Act → World → Prop, Shut (∀ a w, S w → (S w → wpAnyH P md l.toArray Q S fuel (listed.setIfInBounds i true) a w) → K' a w) → if Region.wanted o (yielded l.toArray a.tmps) = true then Oper.wp P o a w K' Q else K' (a.put o.dst undef) w)
    (h' : ∀ K' : Act → World → Prop, Shut (∀ a w, S w → (S w → wpAnyH P md l.toArray Q S fuel (listed.setIfInBounds j true) a w) → K' a w) → if Region.wanted o' (yielded l.toArray a.tmps) = true then Oper.wp P o' a w K' Q else K' (a.put o'.dst undef) w) :
    wpAnyH P md l.toArray Q S (fuel + 1) listed a w :=
  wpAnyH_ready hr (by simp) (AllReadyH.cons (drop_at hi) h (AllReadyH.cons (drop_at hj) h' AllReadyH.nil))

set_option maxRecDepth 100000 in
set_option maxHeartbeats 8000000 in
theorem skelPublic_walk (k : UInt8) (h : Int) (a : UInt8) (cn ou : Int) (A B : Option Addr) (n c m d : Nat) (xs ys : List UInt8) (b : UInt8) (K : UInt8) (H2 : Int) (A3 : UInt8) (C4 O5 D6 M7 : Int) (w : World) (hA : Rd w 1 A n (xs.map vb)) (hB : Rd w 1 B m (ys.map vb)) (hn : n ≤ 140737488351232) (hm : m ≤ 140737488351232) (_ : I64 h) (_ : I64 cn) (_ : I64 ou) (_ : I64 H2) (_ : I64 C4) (_ : I64 O5) (_ : I64 D6) (_ : I64 M7) :
    Calls Try.prog 13 #[opV k h a cn ou (.slice A n c) (.slice B m d), .int .u8 (b.toNat : Int), .agg #[.int .u8 (K.toNat : Int), .int .i64 H2, .int .u8 (A3.toNat : Int), .int .i64 C4, .int .i64 O5, .int .i64 D6, .int .i64 M7]] w fun e w' => e = .returned (.bool true) ∧ Below w.heap.size w w' := by
  have Hx := Lib.hid (show xs.length = n by simpa using hA.1)
  have Hy := Lib.hid (show ys.length = m by simpa using hB.1)
  have CO : ∀ w, Calls Try.prog 32 #[opV k h a cn ou (.slice A n c) (.slice B m d)] w fun e w' => e = .returned (.agg #[.int .u8 (k.toNat : Int), .int .i64 (qI 1 k h), .int .u8 ((qA k a).toNat : Int), .int .i64 (qI 3 k cn), .int .i64 (qI 4 k ou), .int .i64 (qI 5 k n), .int .i64 (qI 6 k m)]) ∧ Below w.heap.size w w' := skOf_u k h a cn ou A B n c m d
  have CQ : ∀ w, Rd w 1 A n (xs.map vb) → Rd w 1 B m (ys.map vb) → Calls Try.prog 47 #[opV k h a cn ou (.slice A n c) (.slice B m d)] w (PlainP k h a cn ou xs ys w) := fun w h1 h2 => opPlain_s k h a cn ou A B n m c d xs ys w h1 h2 (by omega) (by omega)
  have l6 := pL_q k 4 xs
  have l7 := pL_q k 5 ys
  unfold PlainP at CQ
  simp only [pI_q, pA_q, Nat.reduceAdd] at CQ
  simp only [Nat.reduceAdd] at l6 l7
  rw [Hx.out] at l6
  rw [Hy.out] at l7
  have n6 := pLq_le 4 (usesOf k) xs
  have n7 := pLq_le 5 (usesOf k) ys
  rw [Hx.out] at n6
  rw [Hy.out] at n7
  have i2 := qI_qI 1 k h
  have i3 := qA_qA k a
  have i4 := qI_qI 3 k cn
  have i5 := qI_qI 4 k ou
  have i6 := qI_qI 5 k n
  have i7 := qI_qI 6 k m
  rw [← l6, ← l7] at CO
  rw [← l6] at i6
  rw [← l7] at i7
  generalize pL 4 (usesOf k) xs = pd at CQ l6 n6 CO i6
  generalize pL 5 (usesOf k) ys = pm at CQ l7 n7 CO i7
  generalize qI 1 k h = s2 at CO CQ i2
  generalize qA k a = s3 at CO CQ i3
  generalize qI 3 k cn = s4 at CO CQ i4
  generalize qI 4 k ou = s5 at CO CQ i5
  have CP : ∀ (A B : Option Addr) (c d : Nat) w, Calls Try.prog 32 #[opV k s2 s3 s4 s5 (.slice A pd.length c) (.slice B pm.length d)] w fun e w' => e = .returned (.agg #[.int .u8 (k.toNat : Int), .int .i64 s2, .int .u8 (s3.toNat : Int), .int .i64 s4, .int .i64 s5, .int .i64 (pd.length : Int), .int .i64 (pm.length : Int)]) ∧ Below w.heap.size w w' := fun A B c d w => by
    have := skOf_u k s2 s3 s4 s5 A B pd.length c pm.length d w
    rwa [i2, i3, i4, i5, i6, i7] at this
  have CF : ∀ w, Calls Try.prog 44 #[.agg #[.int .u8 (k.toNat : Int), .int .i64 s2, .int .u8 (s3.toNat : Int), .int .i64 s4, .int .i64 s5, .int .i64 (pd.length : Int), .int .i64 (pm.length : Int)], .int .u8 (b.toNat : Int)] w (FillP k s2 s3 s4 s5 pd.length pm.length b w) := fun w => by
    have := skFill_q k s2 s3 s4 s5 pd.length pm.length b w
    rwa [i2, i3, i4, i5, i6, i7] at this
  have HCO := Lib.hid CO
  have HCQ := Lib.hid CQ
  have HCP := Lib.hid CP
  have HCF := Lib.hid CF
  clear CO CQ CP CF i2 i3 i4 i5 i6 i7 l6 l7
  have hU := Try.underlying51
  have hUO := Try.underlying31
  have h0 := St.start_lay w []
  have HA := (h0.allocAt 0 rfl w.heap.size rfl #[.int .u8 (k.toNat : Int), .int .i64 h, .int .u8 (a.toNat : Int), .int .i64 cn, .int .i64 ou, .slice A n c, .slice B m d] 31 |>.push_mk rfl |>.allocAt 1 rfl (w.heap.size + 1) (by simp) #[.int .u8 (K.toNat : Int), .int .i64 H2, .int .u8 (A3.toNat : Int), .int .i64 C4, .int .i64 O5, .int .i64 D6, .int .i64 M7] 51 |>.push_mk rfl)
  clear h0
  go_enter Try.func13, Try.ntmps13
  go_wp2_with (first | (refine load_guard (by rfl) 31 (.tmp 3) rfl w.heap.size rfl _ _ _ _ (HA.blk 0 rfl) Try.underlying31 rfl op_size ?_) | (refine wpList_load_row rfl 31 (.tmp 3) rfl w.heap.size rfl _ _ _ _ (HA.blk 0 rfl) Try.underlying31 rfl op_size ?_))
  refine absorb_calls HA ?_
  clear HA
  intro w1 H
  generalize w.heap.size + 1 = gM at H ⊢
  generalize hga : w.heap.size = gO at H ⊢
  clear hga
  replace H : St w [] w1 (lay [.blk gO 31 [.int .u8 (k.toNat : Int), .int .i64 h, .int .u8 (a.toNat : Int), .int .i64 cn, .int .i64 ou, .slice A n c, .slice B m d], .blk gM 51 [.int .u8 (K.toNat : Int), .int .i64 H2, .int .u8 (A3.toNat : Int), .int .i64 C4, .int .i64 O5, .int .i64 D6, .int .i64 M7]]) := H
  refine (HCO.out _).mono ?_
  rintro e wx ⟨rfl, hb⟩
  replace H := H.call hb
  clear hb
  have HA := (H.allocAt 2 rfl wx.heap.size rfl #[.int .u8 (k.toNat : Int), .int .i64 s2, .int .u8 (s3.toNat : Int), .int .i64 s4, .int .i64 s5, .int .i64 (pd.length : Int), .int .i64 (pm.length : Int)] 51).push_mk rfl
  clear H
  have y1 := HA.lt 0 rfl
  have y2 := HA.lt 1 rfl
  go_wp2_with (first | (refine load_guard (by rfl) 31 (.tmp 3) rfl gO rfl _ _ _ _ (HA.blk 0 rfl) Try.underlying31 rfl op_size ?_) | (refine wpList_load_row rfl 31 (.tmp 3) rfl gO rfl _ _ _ _ (HA.blk 0 rfl) Try.underlying31 rfl op_size ?_))
  refine absorb_calls HA ?_
  clear HA y1 y2
  intro wy H
  generalize wx.heap.size = gs at H ⊢
  replace H : St w [] wy (lay [.blk gO 31 [.int .u8 (k.toNat : Int), .int .i64 h, .int .u8 (a.toNat : Int), .int .i64 cn, .int .i64 ou, .slice A n c, .slice B m d], .blk gM 51 [.int .u8 (K.toNat : Int), .int .i64 H2, .int .u8 (A3.toNat : Int), .int .i64 C4, .int .i64 O5, .int .i64 D6, .int .i64 M7], .blk gs 51 [.int .u8 (k.toNat : Int), .int .i64 s2, .int .u8 (s3.toNat : Int), .int .i64 s4, .int .i64 s5, .int .i64 (pd.length : Int), .int .i64 (pm.length : Int)]]) := H
  refine (HCQ.out _ (H.arg0 hA) (H.arg0 hB)).mono ?_
  rintro e wx ⟨v5, v6, rfl, HN⟩
  replace H := H.also HN
  clear HN
  obtain ⟨AP, cP, rfl, -⟩ := row_form (H.row 3 rfl)
  obtain ⟨BP, dP, rfl, -⟩ := row_form (H.row 4 rfl)
  replace H : St w [] wx (lay [.blk gO 31 [.int .u8 (k.toNat : Int), .int .i64 h, .int .u8 (a.toNat : Int), .int .i64 cn, .int .i64 ou, .slice A n c, .slice B m d], .blk gM 51 [.int .u8 (K.toNat : Int), .int .i64 H2, .int .u8 (A3.toNat : Int), .int .i64 C4, .int .i64 O5, .int .i64 D6, .int .i64 M7], .blk gs 51 [.int .u8 (k.toNat : Int), .int .i64 s2, .int .u8 (s3.toNat : Int), .int .i64 s4, .int .i64 s5, .int .i64 (pd.length : Int), .int .i64 (pm.length : Int)], .row 5 1 (.slice AP pd.length cP) pd.length (pd.map vb), .row 5 1 (.slice BP pm.length dP) pm.length (pm.map vb)]) := H
  have HA := (H.allocAt 5 rfl wx.heap.size rfl #[.int .u8 (k.toNat : Int), .int .i64 s2, .int .u8 (s3.toNat : Int), .int .i64 s4, .int .i64 s5, .slice AP pd.length cP, .slice BP pm.length dP] 31).push_mk rfl
  clear H
  have y1 := HA.lt 0 rfl
  have y2 := HA.lt 1 rfl
  have y3 := HA.lt 2 rfl
  go_wp2_with (first | (refine load_guard (by rfl) 51 (.tmp 7) rfl gs rfl _ _ _ _ (HA.blk 2 rfl) Try.underlying51 rfl sk_size ?_) | (refine wpList_load_row rfl 51 (.tmp 7) rfl gs rfl _ _ _ _ (HA.blk 2 rfl) Try.underlying51 rfl sk_size ?_))
  refine absorb_calls HA ?_
  clear HA y1 y2 y3
  intro wy H
  generalize wx.heap.size = gP at H ⊢
  replace H : St w [] wy (lay [.blk gO 31 [.int .u8 (k.toNat : Int), .int .i64 h, .int .u8 (a.toNat : Int), .int .i64 cn, .int .i64 ou, .slice A n c, .slice B m d], .blk gM 51 [.int .u8 (K.toNat : Int), .int .i64 H2, .int .u8 (A3.toNat : Int), .int .i64 C4, .int .i64 O5, .int .i64 D6, .int .i64 M7], .blk gs 51 [.int .u8 (k.toNat : Int), .int .i64 s2, .int .u8 (s3.toNat : Int), .int .i64 s4, .int .i64 s5, .int .i64 (pd.length : Int), .int .i64 (pm.length : Int)], .row 5 1 (.slice AP pd.length cP) pd.length (pd.map vb), .row 5 1 (.slice BP pm.length dP) pm.length (pm.map vb), .blk gP 31 [.int .u8 (k.toNat : Int), .int .i64 s2, .int .u8 (s3.toNat : Int), .int .i64 s4, .int .i64 s5, .slice AP pd.length cP, .slice BP pm.length dP]]) := H
  by_cases hs : pd.length ≤ 16777215 ∧ pm.length ≤ 16777215
  · refine (HCF.out _).mono ?_
    intro e wx HX
    obtain ⟨v5, v6, he, HN⟩ := HX.1 (by omega)
    clear HX
    subst he
    replace H := H.also HN
    clear HN
    obtain ⟨AF, cF, rfl, -⟩ := row_form (H.row 6 rfl)
    obtain ⟨BF, dF, rfl, -⟩ := row_form (H.row 7 rfl)
    replace H : St w [] wx (lay [.blk gO 31 [.int .u8 (k.toNat : Int), .int .i64 h, .int .u8 (a.toNat : Int), .int .i64 cn, .int .i64 ou, .slice A n c, .slice B m d], .blk gM 51 [.int .u8 (K.toNat : Int), .int .i64 H2, .int .u8 (A3.toNat : Int), .int .i64 C4, .int .i64 O5, .int .i64 D6, .int .i64 M7], .blk gs 51 [.int .u8 (k.toNat : Int), .int .i64 s2, .int .u8 (s3.toNat : Int), .int .i64 s4, .int .i64 s5, .int .i64 (pd.length : Int), .int .i64 (pm.length : Int)], .row 5 1 (.slice AP pd.length cP) pd.length (pd.map vb), .row 5 1 (.slice BP pm.length dP) pm.length (pm.map vb), .blk gP 31 [.int .u8 (k.toNat : Int), .int .i64 s2, .int .u8 (s3.toNat : Int), .int .i64 s4, .int .i64 s5, .slice AP pd.length cP, .slice BP pm.length dP], .row 5 1 (.slice AF pd.length cF) pd.length ((List.replicate pd.length b).map vb), .row 5 1 (.slice BF pm.length dF) pm.length ((List.replicate pm.length b).map vb)]) := H
    have HA := (H.allocAt 8 rfl wx.heap.size rfl #[.int .u8 (k.toNat : Int), .int .i64 s2, .int .u8 (s3.toNat : Int), .int .i64 s4, .int .i64 s5, .slice AF pd.length cF, .slice BF pm.length dF] 31).push_mk rfl
    clear H
    have x5 := HA.cell 2 rfl (o := 5) rfl
    have x6 := HA.cell 2 rfl (o := 6) rfl
    have hd' : ¬ (16777215 : Int) < (pd.length : Int) := by omega
    have hm' : ¬ (16777215 : Int) < (pm.length : Int) := by omega
    go_wp2_with fail
    refine absorb_wp HA ?_
    clear HA x5 x6 hd' hm'
    intro wy H
    generalize wx.heap.size = gF at H ⊢
    replace H : St w [] wy (lay [.blk gO 31 [.int .u8 (k.toNat : Int), .int .i64 h, .int .u8 (a.toNat : Int), .int .i64 cn, .int .i64 ou, .slice A n c, .slice B m d], .blk gM 51 [.int .u8 (K.toNat : Int), .int .i64 H2, .int .u8 (A3.toNat : Int), .int .i64 C4, .int .i64 O5, .int .i64 D6, .int .i64 M7], .blk gs 51 [.int .u8 (k.toNat : Int), .int .i64 s2, .int .u8 (s3.toNat : Int), .int .i64 s4, .int .i64 s5, .int .i64 (pd.length : Int), .int .i64 (pm.length : Int)], .row 5 1 (.slice AP pd.length cP) pd.length (pd.map vb), .row 5 1 (.slice BP pm.length dP) pm.length (pm.map vb), .blk gP 31 [.int .u8 (k.toNat : Int), .int .i64 s2, .int .u8 (s3.toNat : Int), .int .i64 s4, .int .i64 s5, .slice AP pd.length cP, .slice BP pm.length dP], .row 5 1 (.slice AF pd.length cF) pd.length ((List.replicate pd.length b).map vb), .row 5 1 (.slice BF pm.length dF) pm.length ((List.replicate pm.length b).map vb), .blk gF 31 [.int .u8 (k.toNat : Int), .int .i64 s2, .int .u8 (s3.toNat : Int), .int .i64 s4, .int .i64 s5, .slice AF pd.length cF, .slice BF pm.length dF]]) := H
    replace H := H.drew
    refine wp_region_held_drew (S := fun w' : World => w'.rangeAt gs 0 ([.int .u8 (k.toNat : Int), .int .i64 s2, .int .u8 (s3.toNat : Int), .int .i64 s4, .int .i64 s5, .int .i64 (pd.length : Int), .int .i64 (pm.length : Int)] : List Value) ∧ w'.rangeAt gP 0 ([.int .u8 (k.toNat : Int), .int .i64 s2, .int .u8 (s3.toNat : Int), .int .i64 s4, .int .i64 s5, .slice AP pd.length cP, .slice BP pm.length dP] : List Value) ∧ w'.rangeAt gF 0 ([.int .u8 (k.toNat : Int), .int .i64 s2, .int .u8 (s3.toNat : Int), .int .i64 s4, .int .i64 s5, .slice AF pd.length cF, .slice BF pm.length dF] : List Value) ∧ w'.cell? ⟨gs, 0, none⟩ = some (.int .u8 (k.toNat : Int)) ∧ w'.cell? ⟨gO, 0, none⟩ = some (.int .u8 (k.toNat : Int))) (by kernel_rfl) ?_ (fun hHeld => ?_)
    · exact ⟨H.range 2 rfl, H.range 5 rfl, H.range 8 rfl, H.cell 2 rfl (o := 0) rfl, H.cell 0 rfl (o := 0) rfl⟩
    refine take_call 0 rfl (by kernel_rfl) (fun K hK => ?_)
    try go_simp
    refine (skAwake_s _).mono ?_
    rintro e wx ⟨rfl, hb⟩
    replace H := H.call hb
    clear hb
    refine hK.out _ _ ?_ (fun hHeld => ?_)
    · exact ⟨H.range 2 rfl, H.range 5 rfl, H.range 8 rfl, H.cell 2 rfl (o := 0) rfl, H.cell 0 rfl (o := 0) rfl⟩
    clear hK K
    try simp only [Act.put, List.setIfInBounds_toArray, List.set_cons_zero, List.set_cons_succ]
    refine take_pure 1 (.bool false) rfl (by kernel_rfl) (by kernel_rfl) (by kernel_rfl) (fun _ _ _ h => h) rfl (by intro w hSw; go_simp; try with_reducible rfl) (by assumption) ?_
    try simp only [Act.put, List.setIfInBounds_toArray, List.set_cons_zero, List.set_cons_succ]
    refine take_pure 2 (.bool false) rfl (by kernel_rfl) (by kernel_rfl) (by kernel_rfl) (fun _ _ _ h => h) rfl (by intro w hSw; go_simp; try with_reducible rfl) (by assumption) ?_
    try simp only [Act.put, List.setIfInBounds_toArray, List.set_cons_zero, List.set_cons_succ]
    refine take_load 3 gP ([.int .u8 (k.toNat : Int), .int .i64 s2, .int .u8 (s3.toNat : Int), .int .i64 s4, .int .i64 s5, .slice AP pd.length cP, .slice BP pm.length dP] : List Value) (fun w h => h.2.1) hUO op_size rfl (by kernel_rfl) (by kernel_rfl) (by kernel_rfl) (fun _ _ _ h => h) rfl rfl rfl rfl (by assumption) ?_
    try simp only [Act.put, List.setIfInBounds_toArray, List.set_cons_zero, List.set_cons_succ]
    refine take_load 5 gs ([.int .u8 (k.toNat : Int), .int .i64 s2, .int .u8 (s3.toNat : Int), .int .i64 s4, .int .i64 s5, .int .i64 (pd.length : Int), .int .i64 (pm.length : Int)] : List Value) (fun w h => h.1) hU sk_size rfl (by kernel_rfl) (by kernel_rfl) (by kernel_rfl) (fun _ _ _ h => h) rfl rfl rfl rfl (by assumption) ?_
    try simp only [Act.put, List.setIfInBounds_toArray, List.set_cons_zero, List.set_cons_succ]
    refine take_call 4 rfl (by kernel_rfl) (fun K hK => ?_)
    try go_simp
    refine (HCP.out _ _ _ _ _).mono ?_
    rintro e wx ⟨rfl, hb⟩
    replace H := H.call hb
    clear hb
    refine hK.out _ _ ?_ (fun hHeld => ?_)
    · exact ⟨H.range 2 rfl, H.range 5 rfl, H.range 8 rfl, H.cell 2 rfl (o := 0) rfl, H.cell 0 rfl (o := 0) rfl⟩
    clear hK K
    try simp only [Act.put, List.setIfInBounds_toArray, List.set_cons_zero, List.set_cons_succ]
    refine take_pure 6 (.bool false) rfl (by kernel_rfl) (by kernel_rfl) (by kernel_rfl) (fun _ _ _ h => h) rfl (by intro w hSw; go_simp; try with_reducible rfl) (by assumption) ?_
    try simp only [Act.put, List.setIfInBounds_toArray, List.set_cons_zero, List.set_cons_succ]
    refine take_pure 7 (.bool false) rfl (by kernel_rfl) (by kernel_rfl) (by kernel_rfl) (fun _ _ _ h => h) rfl (by intro w hSw; go_simp; try with_reducible rfl) (by assumption) ?_
    try simp only [Act.put, List.setIfInBounds_toArray, List.set_cons_zero, List.set_cons_succ]
    refine take_pure 8 (.bool false) rfl (by kernel_rfl) (by kernel_rfl) (by kernel_rfl) (fun _ _ _ h => h) rfl (by intro w hSw; go_simp; try with_reducible rfl) (by assumption) ?_
    try simp only [Act.put, List.setIfInBounds_toArray, List.set_cons_zero, List.set_cons_succ]
    refine take_pure 9 (.int .i64 0) rfl (by kernel_rfl) (by kernel_rfl) (by kernel_rfl) (fun _ _ _ h => h) rfl (by intro w hSw; go_simp; try with_reducible rfl) (by assumption) ?_
    try simp only [Act.put, List.setIfInBounds_toArray, List.set_cons_zero, List.set_cons_succ]
    refine take_pure 10 (.bool false) rfl (by kernel_rfl) (by kernel_rfl) (by kernel_rfl) (fun _ _ _ h => h) rfl (by intro w hSw; go_simp; try with_reducible rfl) (by assumption) ?_
    try simp only [Act.put, List.setIfInBounds_toArray, List.set_cons_zero, List.set_cons_succ]
    refine take_pure 11 (.bool false) rfl (by kernel_rfl) (by kernel_rfl) (by kernel_rfl) (fun _ _ _ h => h) rfl (by intro w hSw; go_simp; try with_reducible rfl) (by assumption) ?_
    try simp only [Act.put, List.setIfInBounds_toArray, List.set_cons_zero, List.set_cons_succ]
    refine take_pure 12 (.bool false) rfl (by kernel_rfl) (by kernel_rfl) (by kernel_rfl) (fun _ _ _ h => h) rfl (by intro w hSw; go_simp; try with_reducible rfl) (by assumption) ?_
    try simp only [Act.put, List.setIfInBounds_toArray, List.set_cons_zero, List.set_cons_succ]
    refine take_load 13 gF ([.int .u8 (k.toNat : Int), .int .i64 s2, .int .u8 (s3.toNat : Int), .int .i64 s4, .int .i64 s5, .slice AF pd.length cF, .slice BF pm.length dF] : List Value) (fun w h => h.2.2.1) hUO op_size rfl (by kernel_rfl) (by kernel_rfl) (by kernel_rfl) (fun _ _ _ h => h) rfl rfl rfl rfl (by assumption) ?_
    try simp only [Act.put, List.setIfInBounds_toArray, List.set_cons_zero, List.set_cons_succ]
    refine take_load 15 gs ([.int .u8 (k.toNat : Int), .int .i64 s2, .int .u8 (s3.toNat : Int), .int .i64 s4, .int .i64 s5, .int .i64 (pd.length : Int), .int .i64 (pm.length : Int)] : List Value) (fun w h => h.1) hU sk_size rfl (by kernel_rfl) (by kernel_rfl) (by kernel_rfl) (fun _ _ _ h => h) rfl rfl rfl rfl (by assumption) ?_
    try simp only [Act.put, List.setIfInBounds_toArray, List.set_cons_zero, List.set_cons_succ]
    refine take_call 14 rfl (by kernel_rfl) (fun K hK => ?_)
    try go_simp
    refine (HCP.out _ _ _ _ _).mono ?_
    rintro e wx ⟨rfl, hb⟩
    replace H := H.call hb
    clear hb
    refine hK.out _ _ ?_ (fun hHeld => ?_)
    · exact ⟨H.range 2 rfl, H.range 5 rfl, H.range 8 rfl, H.cell 2 rfl (o := 0) rfl, H.cell 0 rfl (o := 0) rfl⟩
    clear hK K
    try simp only [Act.put, List.setIfInBounds_toArray, List.set_cons_zero, List.set_cons_succ]
    refine take_pure 16 (.bool false) rfl (by kernel_rfl) (by kernel_rfl) (by kernel_rfl) (fun _ _ _ h => h) rfl (by intro w hSw; go_simp; try with_reducible rfl) (by assumption) ?_
    try simp only [Act.put, List.setIfInBounds_toArray, List.set_cons_zero, List.set_cons_succ]
    refine take_pure 17 (.bool false) rfl (by kernel_rfl) (by kernel_rfl) (by kernel_rfl) (fun _ _ _ h => h) rfl (by intro w hSw; go_simp; try with_reducible rfl) (by assumption) ?_
    try simp only [Act.put, List.setIfInBounds_toArray, List.set_cons_zero, List.set_cons_succ]
    refine take_pure 18 (.bool false) rfl (by kernel_rfl) (by kernel_rfl) (by kernel_rfl) (fun _ _ _ h => h) rfl (by intro w hSw; go_simp; try with_reducible rfl) (by assumption) ?_
    try simp only [Act.put, List.setIfInBounds_toArray, List.set_cons_zero, List.set_cons_succ]
    refine take_pure 19 (.pointer (some ⟨gs, 0, none⟩)) rfl (by kernel_rfl) (by kernel_rfl) (by kernel_rfl) (fun _ _ _ h => h) rfl (by intro w hSw; go_simp; try with_reducible rfl) (by assumption) ?_
    try simp only [Act.put, List.setIfInBounds_toArray, List.set_cons_zero, List.set_cons_succ]
    refine take_pure 20 (.int .u8 (k.toNat : Int)) rfl (by kernel_rfl) (by kernel_rfl) (by kernel_rfl) (fun _ _ _ h => h) rfl (by intro w hSw; have hc1 := hSw.2.2.2.1; have hc2 := hSw.2.2.2.2; clear hSw; go_simp; try with_reducible rfl) (by assumption) ?_
    try simp only [Act.put, List.setIfInBounds_toArray, List.set_cons_zero, List.set_cons_succ]
    refine take_pure 21 (.pointer (some ⟨gO, 0, none⟩)) rfl (by kernel_rfl) (by kernel_rfl) (by kernel_rfl) (fun _ _ _ h => h) rfl (by intro w hSw; go_simp; try with_reducible rfl) (by assumption) ?_
    try simp only [Act.put, List.setIfInBounds_toArray, List.set_cons_zero, List.set_cons_succ]
    refine take_pure 22 (.int .u8 (k.toNat : Int)) rfl (by kernel_rfl) (by kernel_rfl) (by kernel_rfl) (fun _ _ _ h => h) rfl (by intro w hSw; have hc1 := hSw.2.2.2.1; have hc2 := hSw.2.2.2.2; clear hSw; go_simp; try with_reducible rfl) (by assumption) ?_
    try simp only [Act.put, List.setIfInBounds_toArray, List.set_cons_zero, List.set_cons_succ]
    refine take_pure 23 (.bool false) rfl (by kernel_rfl) (by kernel_rfl) (by kernel_rfl) (fun _ _ _ h => h) rfl (by intro w hSw; go_simp; try with_reducible rfl) (by assumption) ?_
    try simp only [Act.put, List.setIfInBounds_toArray, List.set_cons_zero, List.set_cons_succ]
    refine take_pure 24 (.bool false) rfl (by kernel_rfl) (by kernel_rfl) (by kernel_rfl) (fun _ _ _ h => h) rfl (by intro w hSw; go_simp; try with_reducible rfl) (by assumption) ?_
    try simp only [Act.put, List.setIfInBounds_toArray, List.set_cons_zero, List.set_cons_succ]
    refine wpAnyH_done (by kernel_rfl) ?_ _
    clear hHeld
    have f1 := H.cell 8 rfl (o := 1) rfl
    have p1 := H.cell 5 rfl (o := 1) rfl
    have f2 := H.cell 8 rfl (o := 2) rfl
    have p2 := H.cell 5 rfl (o := 2) rfl
    have f3 := H.cell 8 rfl (o := 3) rfl
    have p3 := H.cell 5 rfl (o := 3) rfl
    have f4 := H.cell 8 rfl (o := 4) rfl
    have p4 := H.cell 5 rfl (o := 4) rfl
    have f5 := H.cell 8 rfl (o := 5) rfl
    have p5 := H.cell 5 rfl (o := 5) rfl
    have f6 := H.cell 8 rfl (o := 6) rfl
    have p6 := H.cell 5 rfl (o := 6) rfl
    have r5 := H.cell 2 rfl (o := 5) rfl
    have r6 := H.cell 2 rfl (o := 6) rfl
    go_wp2_with fail
    clear f1 f2 f3 f4 f5 f6 p1 p2 p3 p4 p5 p6 r5 r6
    go_loopw [11] (fun i wr => ∃ j : Nat, j ≤ pd.length ∧ i = .int .i64 j ∧ St w [] wr (lay [.blk gO 31 [.int .u8 (k.toNat : Int), .int .i64 h, .int .u8 (a.toNat : Int), .int .i64 cn, .int .i64 ou, .slice A n c, .slice B m d], .blk gM 51 [.int .u8 (K.toNat : Int), .int .i64 H2, .int .u8 (A3.toNat : Int), .int .i64 C4, .int .i64 O5, .int .i64 D6, .int .i64 M7], .blk gs 51 [.int .u8 (k.toNat : Int), .int .i64 s2, .int .u8 (s3.toNat : Int), .int .i64 s4, .int .i64 s5, .int .i64 (pd.length : Int), .int .i64 (pm.length : Int)], .row 5 1 (.slice AP pd.length cP) pd.length (pd.map vb), .row 5 1 (.slice BP pm.length dP) pm.length (pm.map vb), .blk gP 31 [.int .u8 (k.toNat : Int), .int .i64 s2, .int .u8 (s3.toNat : Int), .int .i64 s4, .int .i64 s5, .slice AP pd.length cP, .slice BP pm.length dP], .row 5 1 (.slice AF pd.length cF) pd.length ((List.replicate pd.length b).map vb), .row 5 1 (.slice BF pm.length dF) pm.length ((List.replicate pm.length b).map vb), .blk gF 31 [.int .u8 (k.toNat : Int), .int .i64 s2, .int .u8 (s3.toNat : Int), .int .i64 s4, .int .i64 s5, .slice AF pd.length cF, .slice BF pm.length dF]])) (fun i _ => pd.length - (intOf i).toNat)
    case atStart => exact ⟨0, Nat.zero_le _, rfl, H⟩
    case round =>
      clear H
      obtain ⟨j, hj, rfl, H⟩ := hrel
      have y5 := H.cell 8 rfl (o := 5) rfl
      by_cases hlt : j < pd.length
      · obtain ⟨p, q, hp, -, hc⟩ := (H.rd 6 rfl).flat (by omega) (by omega)
        have hcj : wr.cell? ⟨p, q + j, none⟩ = some (.int .u8 (b.toNat : Int)) := hc j _ (by rw [List.getElem?_map, List.getElem?_replicate, if_pos hlt]; rfl)
        rw [hp] at y5
        clear hc
        have hHp := Lib.hid hp
        clear hp
        have hk1 : (j : Int) < pd.length := by omega
        go_wp2
        go_roundw
        case rel => exact ⟨j + 1, by omega, by go_num, H⟩
        case measure => simp [intOf]; omega
      · clear hj
        have hk1 : ¬ (j : Int) < pd.length := by omega
        go_wp2
        clear y5 hk1
        go_loopw [12] (fun i wr => ∃ j : Nat, j ≤ pm.length ∧ i = .int .i64 j ∧ St w [] wr (lay [.blk gO 31 [.int .u8 (k.toNat : Int), .int .i64 h, .int .u8 (a.toNat : Int), .int .i64 cn, .int .i64 ou, .slice A n c, .slice B m d], .blk gM 51 [.int .u8 (K.toNat : Int), .int .i64 H2, .int .u8 (A3.toNat : Int), .int .i64 C4, .int .i64 O5, .int .i64 D6, .int .i64 M7], .blk gs 51 [.int .u8 (k.toNat : Int), .int .i64 s2, .int .u8 (s3.toNat : Int), .int .i64 s4, .int .i64 s5, .int .i64 (pd.length : Int), .int .i64 (pm.length : Int)], .row 5 1 (.slice AP pd.length cP) pd.length (pd.map vb), .row 5 1 (.slice BP pm.length dP) pm.length (pm.map vb), .blk gP 31 [.int .u8 (k.toNat : Int), .int .i64 s2, .int .u8 (s3.toNat : Int), .int .i64 s4, .int .i64 s5, .slice AP pd.length cP, .slice BP pm.length dP], .row 5 1 (.slice AF pd.length cF) pd.length ((List.replicate pd.length b).map vb), .row 5 1 (.slice BF pm.length dF) pm.length ((List.replicate pm.length b).map vb), .blk gF 31 [.int .u8 (k.toNat : Int), .int .i64 s2, .int .u8 (s3.toNat : Int), .int .i64 s4, .int .i64 s5, .slice AF pd.length cF, .slice BF pm.length dF]])) (fun i _ => pm.length - (intOf i).toNat)
        case atStart => exact ⟨0, Nat.zero_le _, rfl, H⟩
        case round =>
          clear H
          obtain ⟨j, hj, rfl, H⟩ := hrel
          have y5 := H.cell 8 rfl (o := 6) rfl
          by_cases hlt : j < pm.length
          · obtain ⟨p, q, hp, -, hc⟩ := (H.rd 7 rfl).flat (by omega) (by omega)
            have hcj : wr.cell? ⟨p, q + j, none⟩ = some (.int .u8 (b.toNat : Int)) := hc j _ (by rw [List.getElem?_map, List.getElem?_replicate, if_pos hlt]; rfl)
            rw [hp] at y5
            clear hc
            have hHp := Lib.hid hp
            clear hp
            have hk1 : (j : Int) < pm.length := by omega
            go_wp2
            go_roundw
            case rel => exact ⟨j + 1, by omega, by go_num, H⟩
            case measure => simp [intOf]; omega
          · clear hj
            have hk1 : ¬ (j : Int) < pm.length := by omega
            have hle := bound_le (pd.length : Int) pm.length s5 s4 D6 M7 O5 C4
            have h96 := bound_96 (pd.length : Int) pm.length s5 s4
            have b2 := skBound_s (k.toNat : Int) s2 (s3.toNat : Int) s4 s5 (pd.length : Int) (pm.length : Int)
            have b1 := skBound_s (k.toNat : Int) s2 (s3.toNat : Int) (max s4 C4) (max s5 O5) (max (pd.length : Int) D6) (max (pm.length : Int) M7)
            generalize bdI (cutI (max (pd.length : Int) D6)) (cutI (max (pm.length : Int) M7)) (cutI (max s5 O5)) (cutI (max s4 C4)) = bt at hle b1
            generalize bdI (cutI (pd.length : Int)) (cutI (pm.length : Int)) (cutI s5) (cutI s4) = bs at hle h96 b2
            have hb1 := Lib.hid b1
            have hb2 := Lib.hid b2
            clear b1 b2
            have HA := (H.allocAt 9 rfl wr.heap.size rfl #[.int .u8 (k.toNat : Int), .int .i64 s2, .int .u8 (s3.toNat : Int), .int .i64 (max s4 C4), .int .i64 (max s5 O5), .int .i64 (max (pd.length : Int) D6), .int .i64 (max (pm.length : Int) M7)] 51).push_mk rfl
            have m3 := H.cell 1 rfl (o := 3) rfl
            have m4 := H.cell 1 rfl (o := 4) rfl
            have m5 := H.cell 1 rfl (o := 5) rfl
            have m6 := H.cell 1 rfl (o := 6) rfl
            have r3 := H.cell 2 rfl (o := 3) rfl
            have r4 := H.cell 2 rfl (o := 4) rfl
            have r5 := H.cell 2 rfl (o := 5) rfl
            have r6 := H.cell 2 rfl (o := 6) rfl
            have l1 := H.lt 1 rfl
            have l2 := H.lt 2 rfl
            go_wp2_with (first | (refine load_guard (by rfl) 51 (.tmp 7) rfl gs rfl _ _ _ _ (H.blk 2 rfl) Try.underlying51 rfl sk_size ?_) | (refine wpList_load_row rfl 51 (.tmp 7) rfl gs rfl _ _ _ _ (H.blk 2 rfl) Try.underlying51 rfl sk_size ?_))
            refine absorb_wp HA ?_
            clear l1 l2 HA H y5 m3 m4 m5 m6 r3 r4 r5 r6 hk1
            intro wy H
            generalize wr.heap.size = gT at H ⊢
            replace H : St w [] wy (lay [.blk gO 31 [.int .u8 (k.toNat : Int), .int .i64 h, .int .u8 (a.toNat : Int), .int .i64 cn, .int .i64 ou, .slice A n c, .slice B m d], .blk gM 51 [.int .u8 (K.toNat : Int), .int .i64 H2, .int .u8 (A3.toNat : Int), .int .i64 C4, .int .i64 O5, .int .i64 D6, .int .i64 M7], .blk gs 51 [.int .u8 (k.toNat : Int), .int .i64 s2, .int .u8 (s3.toNat : Int), .int .i64 s4, .int .i64 s5, .int .i64 (pd.length : Int), .int .i64 (pm.length : Int)], .row 5 1 (.slice AP pd.length cP) pd.length (pd.map vb), .row 5 1 (.slice BP pm.length dP) pm.length (pm.map vb), .blk gP 31 [.int .u8 (k.toNat : Int), .int .i64 s2, .int .u8 (s3.toNat : Int), .int .i64 s4, .int .i64 s5, .slice AP pd.length cP, .slice BP pm.length dP], .row 5 1 (.slice AF pd.length cF) pd.length ((List.replicate pd.length b).map vb), .row 5 1 (.slice BF pm.length dF) pm.length ((List.replicate pm.length b).map vb), .blk gF 31 [.int .u8 (k.toNat : Int), .int .i64 s2, .int .u8 (s3.toNat : Int), .int .i64 s4, .int .i64 s5, .slice AF pd.length cF, .slice BF pm.length dF], .blk gT 51 [.int .u8 (k.toNat : Int), .int .i64 s2, .int .u8 (s3.toNat : Int), .int .i64 (max s4 C4), .int .i64 (max s5 O5), .int .i64 (max (pd.length : Int) D6), .int .i64 (max (pm.length : Int) M7)]]) := H
            replace H := H.drew
            refine wp_region_held_drew (S := fun w' : World => w'.rangeAt gs 0 ([.int .u8 (k.toNat : Int), .int .i64 s2, .int .u8 (s3.toNat : Int), .int .i64 s4, .int .i64 s5, .int .i64 (pd.length : Int), .int .i64 (pm.length : Int)] : List Value) ∧ w'.rangeAt gT 0 ([.int .u8 (k.toNat : Int), .int .i64 s2, .int .u8 (s3.toNat : Int), .int .i64 (max s4 C4), .int .i64 (max s5 O5), .int .i64 (max (pd.length : Int) D6), .int .i64 (max (pm.length : Int) M7)] : List Value) ∧ w'.rangeAt gF 0 ([.int .u8 (k.toNat : Int), .int .i64 s2, .int .u8 (s3.toNat : Int), .int .i64 s4, .int .i64 s5, .slice AF pd.length cF, .slice BF pm.length dF] : List Value)) (by kernel_rfl) ?_ (fun hHeld => ?_)
            · exact ⟨H.range 2 rfl, H.range 9 rfl, H.range 8 rfl⟩
            refine take_load 0 gT ([.int .u8 (k.toNat : Int), .int .i64 s2, .int .u8 (s3.toNat : Int), .int .i64 (max s4 C4), .int .i64 (max s5 O5), .int .i64 (max (pd.length : Int) D6), .int .i64 (max (pm.length : Int) M7)] : List Value) (fun w h => h.2.1) hU sk_size rfl (by kernel_rfl) (by kernel_rfl) (by kernel_rfl) (fun _ _ _ h => h) rfl rfl rfl rfl (by assumption) ?_
            try simp only [Act.put, List.setIfInBounds_toArray, List.set_cons_zero, List.set_cons_succ]
            refine take_load 2 gs ([.int .u8 (k.toNat : Int), .int .i64 s2, .int .u8 (s3.toNat : Int), .int .i64 s4, .int .i64 s5, .int .i64 (pd.length : Int), .int .i64 (pm.length : Int)] : List Value) (fun w h => h.1) hU sk_size rfl (by kernel_rfl) (by kernel_rfl) (by kernel_rfl) (fun _ _ _ h => h) rfl rfl rfl rfl (by assumption) ?_
            try simp only [Act.put, List.setIfInBounds_toArray, List.set_cons_zero, List.set_cons_succ]
            refine take_call 1 rfl (by kernel_rfl) (fun K hK => ?_)
            try go_simp
            refine (hb1.out _).mono ?_
            rintro e wx ⟨rfl, hb⟩
            replace H := H.call hb
            clear hb
            refine hK.out _ _ ?_ (fun hHeld => ?_)
            · exact ⟨H.range 2 rfl, H.range 9 rfl, H.range 8 rfl⟩
            clear hK K
            try simp only [Act.put, List.setIfInBounds_toArray, List.set_cons_zero, List.set_cons_succ]
            refine take_call 3 rfl (by kernel_rfl) (fun K hK => ?_)
            try go_simp
            refine (hb2.out _).mono ?_
            rintro e wx ⟨rfl, hb⟩
            replace H := H.call hb
            clear hb
            refine hK.out _ _ ?_ (fun hHeld => ?_)
            · exact ⟨H.range 2 rfl, H.range 9 rfl, H.range 8 rfl⟩
            clear hK K
            try simp only [Act.put, List.setIfInBounds_toArray, List.set_cons_zero, List.set_cons_succ]
            refine take_pure 4 (.bool true) rfl (by kernel_rfl) (by kernel_rfl) (by kernel_rfl) (fun _ _ _ h => h) rfl (by intro w hSw; go_simp; try with_reducible rfl) (by assumption) ?_
            try simp only [Act.put, List.setIfInBounds_toArray, List.set_cons_zero, List.set_cons_succ]
            refine take_pure 5 (.bool true) rfl (by kernel_rfl) (by kernel_rfl) (by kernel_rfl) (fun _ _ _ h => h) rfl (by intro w hSw; go_simp; try with_reducible rfl) (by assumption) ?_
            try simp only [Act.put, List.setIfInBounds_toArray, List.set_cons_zero, List.set_cons_succ]
            refine take_load 6 gs ([.int .u8 (k.toNat : Int), .int .i64 s2, .int .u8 (s3.toNat : Int), .int .i64 s4, .int .i64 s5, .int .i64 (pd.length : Int), .int .i64 (pm.length : Int)] : List Value) (fun w h => h.1) hU sk_size rfl (by kernel_rfl) (by kernel_rfl) (by kernel_rfl) (fun _ _ _ h => h) rfl rfl rfl rfl (by assumption) ?_
            try simp only [Act.put, List.setIfInBounds_toArray, List.set_cons_zero, List.set_cons_succ]
            refine take_call 7 rfl (by kernel_rfl) (fun K hK => ?_)
            try go_simp
            refine (hb2.out _).mono ?_
            rintro e wx ⟨rfl, hb⟩
            replace H := H.call hb
            clear hb
            refine hK.out _ _ ?_ (fun hHeld => ?_)
            · exact ⟨H.range 2 rfl, H.range 9 rfl, H.range 8 rfl⟩
            clear hK K
            try simp only [Act.put, List.setIfInBounds_toArray, List.set_cons_zero, List.set_cons_succ]
            refine take_pure 8 (.bool true) rfl (by kernel_rfl) (by kernel_rfl) (by kernel_rfl) (fun _ _ _ h => h) rfl (by intro w hSw; go_simp; try with_reducible rfl) (by assumption) ?_
            try simp only [Act.put, List.setIfInBounds_toArray, List.set_cons_zero, List.set_cons_succ]
            refine take_pure 9 (.bool true) rfl (by kernel_rfl) (by kernel_rfl) (by kernel_rfl) (fun _ _ _ h => h) rfl (by intro w hSw; go_simp; try with_reducible rfl) (by assumption) ?_
            try simp only [Act.put, List.setIfInBounds_toArray, List.set_cons_zero, List.set_cons_succ]
            refine take_pure 10 (.bool true) rfl (by kernel_rfl) (by kernel_rfl) (by kernel_rfl) (fun _ _ _ h => h) rfl (by intro w hSw; go_simp; try with_reducible rfl) (by assumption) ?_
            try simp only [Act.put, List.setIfInBounds_toArray, List.set_cons_zero, List.set_cons_succ]
            refine take_load 11 gs ([.int .u8 (k.toNat : Int), .int .i64 s2, .int .u8 (s3.toNat : Int), .int .i64 s4, .int .i64 s5, .int .i64 (pd.length : Int), .int .i64 (pm.length : Int)] : List Value) (fun w h => h.1) hU sk_size rfl (by kernel_rfl) (by kernel_rfl) (by kernel_rfl) (fun _ _ _ h => h) rfl rfl rfl rfl (by assumption) ?_
            try simp only [Act.put, List.setIfInBounds_toArray, List.set_cons_zero, List.set_cons_succ]
            refine take_load 12 gT ([.int .u8 (k.toNat : Int), .int .i64 s2, .int .u8 (s3.toNat : Int), .int .i64 (max s4 C4), .int .i64 (max s5 O5), .int .i64 (max (pd.length : Int) D6), .int .i64 (max (pm.length : Int) M7)] : List Value) (fun w h => h.2.1) hU sk_size rfl (by kernel_rfl) (by kernel_rfl) (by kernel_rfl) (fun _ _ _ h => h) rfl rfl rfl rfl (by assumption) ?_
            try simp only [Act.put, List.setIfInBounds_toArray, List.set_cons_zero, List.set_cons_succ]
            refine take_load 14 gF ([.int .u8 (k.toNat : Int), .int .i64 s2, .int .u8 (s3.toNat : Int), .int .i64 s4, .int .i64 s5, .slice AF pd.length cF, .slice BF pm.length dF] : List Value) (fun w h => h.2.2) hUO op_size rfl (by kernel_rfl) (by kernel_rfl) (by kernel_rfl) (fun _ _ _ h => h) rfl rfl rfl rfl (by assumption) ?_
            try simp only [Act.put, List.setIfInBounds_toArray, List.set_cons_zero, List.set_cons_succ]
            refine take_load 16 gT ([.int .u8 (k.toNat : Int), .int .i64 s2, .int .u8 (s3.toNat : Int), .int .i64 (max s4 C4), .int .i64 (max s5 O5), .int .i64 (max (pd.length : Int) D6), .int .i64 (max (pm.length : Int) M7)] : List Value) (fun w h => h.2.1) hU sk_size rfl (by kernel_rfl) (by kernel_rfl) (by kernel_rfl) (fun _ _ _ h => h) rfl rfl rfl rfl (by assumption) ?_
            try simp only [Act.put, List.setIfInBounds_toArray, List.set_cons_zero, List.set_cons_succ]
            refine take_two 13 15 rfl rfl (by kernel_rfl) (fun K hK => ?_) (fun K hK => ?_)
            · try go_simp
              replace H := (H.allocAt 10 rfl wx.heap.size rfl #[.int .u8 (k.toNat : Int), .int .i64 s2, .int .u8 (s3.toNat : Int), .int .i64 s4, .int .i64 s5, .int .i64 (pd.length : Int), .int .i64 (pm.length : Int), .int .u8 (k.toNat : Int), .int .i64 s2, .int .u8 (s3.toNat : Int), .int .i64 (max s4 C4), .int .i64 (max s5 O5), .int .i64 (max (pd.length : Int) D6), .int .i64 (max (pm.length : Int) M7)] 51).push_mk rfl
              refine hK.out _ _ ?_ (fun hHeld => ?_)
              · exact ⟨H.range 2 rfl, H.range 9 rfl, H.range 8 rfl⟩
              clear hK K
              try simp only [Act.put, List.setIfInBounds_toArray, List.set_cons_zero, List.set_cons_succ]
              generalize wx.heap.size = gx at H ⊢
              generalize World.alloc wx (.cells #[.int .u8 (k.toNat : Int), .int .i64 s2, .int .u8 (s3.toNat : Int), .int .i64 s4, .int .i64 s5, .int .i64 (pd.length : Int), .int .i64 (pm.length : Int), .int .u8 (k.toNat : Int), .int .i64 s2, .int .u8 (s3.toNat : Int), .int .i64 (max s4 C4), .int .i64 (max s5 O5), .int .i64 (max (pd.length : Int) D6), .int .i64 (max (pm.length : Int) M7)] 51) = wx at H hHeld ⊢
              refine take_call 15 rfl (by kernel_rfl) (fun K hK => ?_)
              try go_simp
              refine (HCP.out _ _ _ _ _).mono ?_
              rintro e wx ⟨rfl, hb⟩
              replace H := H.call hb
              clear hb
              refine hK.out _ _ ?_ (fun hHeld => ?_)
              · exact ⟨H.range 2 rfl, H.range 9 rfl, H.range 8 rfl⟩
              clear hK K
              try simp only [Act.put, List.setIfInBounds_toArray, List.set_cons_zero, List.set_cons_succ]
              refine take_call 17 rfl (by kernel_rfl) (fun K hK => ?_)
              try go_simp
              replace H := (H.allocAt 11 rfl wx.heap.size rfl #[.int .u8 (k.toNat : Int), .int .i64 s2, .int .u8 (s3.toNat : Int), .int .i64 s4, .int .i64 s5, .int .i64 (pd.length : Int), .int .i64 (pm.length : Int), .int .u8 (k.toNat : Int), .int .i64 s2, .int .u8 (s3.toNat : Int), .int .i64 (max s4 C4), .int .i64 (max s5 O5), .int .i64 (max (pd.length : Int) D6), .int .i64 (max (pm.length : Int) M7)] 51).push_mk rfl
              refine hK.out _ _ ?_ (fun hHeld => ?_)
              · exact ⟨H.range 2 rfl, H.range 9 rfl, H.range 8 rfl⟩
              clear hK K
              try simp only [Act.put, List.setIfInBounds_toArray, List.set_cons_zero, List.set_cons_succ]
              generalize wx.heap.size = gy at H ⊢
              generalize World.alloc wx (.cells #[.int .u8 (k.toNat : Int), .int .i64 s2, .int .u8 (s3.toNat : Int), .int .i64 s4, .int .i64 s5, .int .i64 (pd.length : Int), .int .i64 (pm.length : Int), .int .u8 (k.toNat : Int), .int .i64 s2, .int .u8 (s3.toNat : Int), .int .i64 (max s4 C4), .int .i64 (max s5 O5), .int .i64 (max (pd.length : Int) D6), .int .i64 (max (pm.length : Int) M7)] 51) = wx at H hHeld ⊢
              refine take_call 18 rfl (by kernel_rfl) (fun K hK => ?_)
              try go_simp
              refine (skelSame_any (some ⟨gx, 0, none⟩) (some ⟨gy, 0, none⟩) 2 2 2 2 [((k.toNat : Int), s2, (s3.toNat : Int), s4, s5, (pd.length : Int), (pm.length : Int)), ((k.toNat : Int), s2, (s3.toNat : Int), max s4 C4, max s5 O5, max (pd.length : Int) D6, max (pm.length : Int) M7)] [((k.toNat : Int), s2, (s3.toNat : Int), s4, s5, (pd.length : Int), (pm.length : Int)), ((k.toNat : Int), s2, (s3.toNat : Int), max s4 C4, max s5 O5, max (pd.length : Int) D6, max (pm.length : Int) M7)] _ (H.rdBlk 10 rfl 7 2 rfl) (H.rdBlk 11 rfl 7 2 rfl) (by omega) (by omega)).mono ?_
              rintro e wx ⟨rfl, q', rfl⟩
              rw [decide_eq_true rfl]
              replace H := H.drewN q'
              refine hK.out _ _ ?_ (fun hHeld => ?_)
              · exact ⟨H.range 2 rfl, H.range 9 rfl, H.range 8 rfl⟩
              clear hK K
              try simp only [Act.put, List.setIfInBounds_toArray, List.set_cons_zero, List.set_cons_succ]
              refine take_pure 19 (.bool true) rfl (by kernel_rfl) (by kernel_rfl) (by kernel_rfl) (fun _ _ _ h => h) rfl (by intro w hSw; go_simp; try with_reducible rfl) (by assumption) ?_
              try simp only [Act.put, List.setIfInBounds_toArray, List.set_cons_zero, List.set_cons_succ]
              refine take_pure 20 (.bool true) rfl (by kernel_rfl) (by kernel_rfl) (by kernel_rfl) (fun _ _ _ h => h) rfl (by intro w hSw; go_simp; try with_reducible rfl) (by assumption) ?_
              try simp only [Act.put, List.setIfInBounds_toArray, List.set_cons_zero, List.set_cons_succ]
              refine wpAnyH_done (by kernel_rfl) ?_ _
              go_wp2_with fail
              go_ret
              exact ⟨rfl, H.below⟩
            · try go_simp
              refine (HCP.out _ _ _ _ _).mono ?_
              rintro e wx ⟨rfl, hb⟩
              replace H := H.call hb
              clear hb
              refine hK.out _ _ ?_ (fun hHeld => ?_)
              · exact ⟨H.range 2 rfl, H.range 9 rfl, H.range 8 rfl⟩
              clear hK K
              try simp only [Act.put, List.setIfInBounds_toArray, List.set_cons_zero, List.set_cons_succ]
              refine take_two 13 17 rfl rfl (by kernel_rfl) (fun K hK => ?_) (fun K hK => ?_)
              · try go_simp
                replace H := (H.allocAt 10 rfl wx.heap.size rfl #[.int .u8 (k.toNat : Int), .int .i64 s2, .int .u8 (s3.toNat : Int), .int .i64 s4, .int .i64 s5, .int .i64 (pd.length : Int), .int .i64 (pm.length : Int), .int .u8 (k.toNat : Int), .int .i64 s2, .int .u8 (s3.toNat : Int), .int .i64 (max s4 C4), .int .i64 (max s5 O5), .int .i64 (max (pd.length : Int) D6), .int .i64 (max (pm.length : Int) M7)] 51).push_mk rfl
                refine hK.out _ _ ?_ (fun hHeld => ?_)
                · exact ⟨H.range 2 rfl, H.range 9 rfl, H.range 8 rfl⟩
                clear hK K
                try simp only [Act.put, List.setIfInBounds_toArray, List.set_cons_zero, List.set_cons_succ]
                generalize wx.heap.size = gx at H ⊢
                generalize World.alloc wx (.cells #[.int .u8 (k.toNat : Int), .int .i64 s2, .int .u8 (s3.toNat : Int), .int .i64 s4, .int .i64 s5, .int .i64 (pd.length : Int), .int .i64 (pm.length : Int), .int .u8 (k.toNat : Int), .int .i64 s2, .int .u8 (s3.toNat : Int), .int .i64 (max s4 C4), .int .i64 (max s5 O5), .int .i64 (max (pd.length : Int) D6), .int .i64 (max (pm.length : Int) M7)] 51) = wx at H hHeld ⊢
                refine take_call 17 rfl (by kernel_rfl) (fun K hK => ?_)
                try go_simp
                replace H := (H.allocAt 11 rfl wx.heap.size rfl #[.int .u8 (k.toNat : Int), .int .i64 s2, .int .u8 (s3.toNat : Int), .int .i64 s4, .int .i64 s5, .int .i64 (pd.length : Int), .int .i64 (pm.length : Int), .int .u8 (k.toNat : Int), .int .i64 s2, .int .u8 (s3.toNat : Int), .int .i64 (max s4 C4), .int .i64 (max s5 O5), .int .i64 (max (pd.length : Int) D6), .int .i64 (max (pm.length : Int) M7)] 51).push_mk rfl
                refine hK.out _ _ ?_ (fun hHeld => ?_)
                · exact ⟨H.range 2 rfl, H.range 9 rfl, H.range 8 rfl⟩
                clear hK K
                try simp only [Act.put, List.setIfInBounds_toArray, List.set_cons_zero, List.set_cons_succ]
                generalize wx.heap.size = gy at H ⊢
                generalize World.alloc wx (.cells #[.int .u8 (k.toNat : Int), .int .i64 s2, .int .u8 (s3.toNat : Int), .int .i64 s4, .int .i64 s5, .int .i64 (pd.length : Int), .int .i64 (pm.length : Int), .int .u8 (k.toNat : Int), .int .i64 s2, .int .u8 (s3.toNat : Int), .int .i64 (max s4 C4), .int .i64 (max s5 O5), .int .i64 (max (pd.length : Int) D6), .int .i64 (max (pm.length : Int) M7)] 51) = wx at H hHeld ⊢
                refine take_call 18 rfl (by kernel_rfl) (fun K hK => ?_)
                try go_simp
                refine (skelSame_any (some ⟨gx, 0, none⟩) (some ⟨gy, 0, none⟩) 2 2 2 2 [((k.toNat : Int), s2, (s3.toNat : Int), s4, s5, (pd.length : Int), (pm.length : Int)), ((k.toNat : Int), s2, (s3.toNat : Int), max s4 C4, max s5 O5, max (pd.length : Int) D6, max (pm.length : Int) M7)] [((k.toNat : Int), s2, (s3.toNat : Int), s4, s5, (pd.length : Int), (pm.length : Int)), ((k.toNat : Int), s2, (s3.toNat : Int), max s4 C4, max s5 O5, max (pd.length : Int) D6, max (pm.length : Int) M7)] _ (H.rdBlk 10 rfl 7 2 rfl) (H.rdBlk 11 rfl 7 2 rfl) (by omega) (by omega)).mono ?_
                rintro e wx ⟨rfl, q', rfl⟩
                rw [decide_eq_true rfl]
                replace H := H.drewN q'
                refine hK.out _ _ ?_ (fun hHeld => ?_)
                · exact ⟨H.range 2 rfl, H.range 9 rfl, H.range 8 rfl⟩
                clear hK K
                try simp only [Act.put, List.setIfInBounds_toArray, List.set_cons_zero, List.set_cons_succ]
                refine take_pure 19 (.bool true) rfl (by kernel_rfl) (by kernel_rfl) (by kernel_rfl) (fun _ _ _ h => h) rfl (by intro w hSw; go_simp; try with_reducible rfl) (by assumption) ?_
                try simp only [Act.put, List.setIfInBounds_toArray, List.set_cons_zero, List.set_cons_succ]
                refine take_pure 20 (.bool true) rfl (by kernel_rfl) (by kernel_rfl) (by kernel_rfl) (fun _ _ _ h => h) rfl (by intro w hSw; go_simp; try with_reducible rfl) (by assumption) ?_
                try simp only [Act.put, List.setIfInBounds_toArray, List.set_cons_zero, List.set_cons_succ]
                refine wpAnyH_done (by kernel_rfl) ?_ _
                go_wp2_with fail
                go_ret
                exact ⟨rfl, H.below⟩
              · try go_simp
                replace H := (H.allocAt 10 rfl wx.heap.size rfl #[.int .u8 (k.toNat : Int), .int .i64 s2, .int .u8 (s3.toNat : Int), .int .i64 s4, .int .i64 s5, .int .i64 (pd.length : Int), .int .i64 (pm.length : Int), .int .u8 (k.toNat : Int), .int .i64 s2, .int .u8 (s3.toNat : Int), .int .i64 (max s4 C4), .int .i64 (max s5 O5), .int .i64 (max (pd.length : Int) D6), .int .i64 (max (pm.length : Int) M7)] 51).push_mk rfl
                refine hK.out _ _ ?_ (fun hHeld => ?_)
                · exact ⟨H.range 2 rfl, H.range 9 rfl, H.range 8 rfl⟩
                clear hK K
                try simp only [Act.put, List.setIfInBounds_toArray, List.set_cons_zero, List.set_cons_succ]
                generalize wx.heap.size = gy at H ⊢
                generalize World.alloc wx (.cells #[.int .u8 (k.toNat : Int), .int .i64 s2, .int .u8 (s3.toNat : Int), .int .i64 s4, .int .i64 s5, .int .i64 (pd.length : Int), .int .i64 (pm.length : Int), .int .u8 (k.toNat : Int), .int .i64 s2, .int .u8 (s3.toNat : Int), .int .i64 (max s4 C4), .int .i64 (max s5 O5), .int .i64 (max (pd.length : Int) D6), .int .i64 (max (pm.length : Int) M7)] 51) = wx at H hHeld ⊢
                refine take_call 13 rfl (by kernel_rfl) (fun K hK => ?_)
                try go_simp
                replace H := (H.allocAt 11 rfl wx.heap.size rfl #[.int .u8 (k.toNat : Int), .int .i64 s2, .int .u8 (s3.toNat : Int), .int .i64 s4, .int .i64 s5, .int .i64 (pd.length : Int), .int .i64 (pm.length : Int), .int .u8 (k.toNat : Int), .int .i64 s2, .int .u8 (s3.toNat : Int), .int .i64 (max s4 C4), .int .i64 (max s5 O5), .int .i64 (max (pd.length : Int) D6), .int .i64 (max (pm.length : Int) M7)] 51).push_mk rfl
                refine hK.out _ _ ?_ (fun hHeld => ?_)
                · exact ⟨H.range 2 rfl, H.range 9 rfl, H.range 8 rfl⟩
                clear hK K
                try simp only [Act.put, List.setIfInBounds_toArray, List.set_cons_zero, List.set_cons_succ]
                generalize wx.heap.size = gx at H ⊢
                generalize World.alloc wx (.cells #[.int .u8 (k.toNat : Int), .int .i64 s2, .int .u8 (s3.toNat : Int), .int .i64 s4, .int .i64 s5, .int .i64 (pd.length : Int), .int .i64 (pm.length : Int), .int .u8 (k.toNat : Int), .int .i64 s2, .int .u8 (s3.toNat : Int), .int .i64 (max s4 C4), .int .i64 (max s5 O5), .int .i64 (max (pd.length : Int) D6), .int .i64 (max (pm.length : Int) M7)] 51) = wx at H hHeld ⊢
                refine take_call 18 rfl (by kernel_rfl) (fun K hK => ?_)
                try go_simp
                refine (skelSame_any (some ⟨gx, 0, none⟩) (some ⟨gy, 0, none⟩) 2 2 2 2 [((k.toNat : Int), s2, (s3.toNat : Int), s4, s5, (pd.length : Int), (pm.length : Int)), ((k.toNat : Int), s2, (s3.toNat : Int), max s4 C4, max s5 O5, max (pd.length : Int) D6, max (pm.length : Int) M7)] [((k.toNat : Int), s2, (s3.toNat : Int), s4, s5, (pd.length : Int), (pm.length : Int)), ((k.toNat : Int), s2, (s3.toNat : Int), max s4 C4, max s5 O5, max (pd.length : Int) D6, max (pm.length : Int) M7)] _ (H.rdBlk 11 rfl 7 2 rfl) (H.rdBlk 10 rfl 7 2 rfl) (by omega) (by omega)).mono ?_
                rintro e wx ⟨rfl, q', rfl⟩
                rw [decide_eq_true rfl]
                replace H := H.drewN q'
                refine hK.out _ _ ?_ (fun hHeld => ?_)
                · exact ⟨H.range 2 rfl, H.range 9 rfl, H.range 8 rfl⟩
                clear hK K
                try simp only [Act.put, List.setIfInBounds_toArray, List.set_cons_zero, List.set_cons_succ]
                refine take_pure 19 (.bool true) rfl (by kernel_rfl) (by kernel_rfl) (by kernel_rfl) (fun _ _ _ h => h) rfl (by intro w hSw; go_simp; try with_reducible rfl) (by assumption) ?_
                try simp only [Act.put, List.setIfInBounds_toArray, List.set_cons_zero, List.set_cons_succ]
                refine take_pure 20 (.bool true) rfl (by kernel_rfl) (by kernel_rfl) (by kernel_rfl) (fun _ _ _ h => h) rfl (by intro w hSw; go_simp; try with_reducible rfl) (by assumption) ?_
                try simp only [Act.put, List.setIfInBounds_toArray, List.set_cons_zero, List.set_cons_succ]
                refine wpAnyH_done (by kernel_rfl) ?_ _
                go_wp2_with fail
                go_ret
                exact ⟨rfl, H.below⟩
  · refine (HCF.out _).mono ?_
    intro e wx HX
    obtain ⟨he, hb⟩ := HX.2 (by omega)
    clear HX
    subst he
    replace H := H.call hb
    clear hb
    have HA := (H.allocAt 6 rfl wx.heap.size rfl #[.int .u8 0, .int .i64 0, .int .u8 0, .int .i64 0, .int .i64 0, .slice none 0 0, .slice none 0 0] 31).push_mk rfl
    clear H
    have x5 := HA.cell 2 rfl (o := 5) rfl
    have x6 := HA.cell 2 rfl (o := 6) rfl
    by_cases hd : 16777215 < pd.length
    · have hd' : (16777215 : Int) < (pd.length : Int) := by omega
      clear hd hs
      go_wp2_with fail
      refine absorb_calls HA ?_
      clear HA x5 x6
      intro wy H
      refine (skAwake_s wy).mono ?_
      rintro e wz ⟨rfl, hb⟩
      replace H := H.call hb
      go_wp2_with fail
      go_ret
      exact ⟨rfl, H.below⟩
    · have hd' : ¬ (16777215 : Int) < (pd.length : Int) := by omega
      have hm' : (16777215 : Int) < (pm.length : Int) := by omega
      clear hd hs
      go_wp2_with fail
      refine absorb_calls HA ?_
      clear HA x5 x6
      intro wy H
      refine (skAwake_s wy).mono ?_
      rintro e wz ⟨rfl, hb⟩
      replace H := H.call hb
      go_wp2_with fail
      go_ret
      exact ⟨rfl, H.below⟩
end Go.Proofs.Ytgfhnbjpdhdhgaa
