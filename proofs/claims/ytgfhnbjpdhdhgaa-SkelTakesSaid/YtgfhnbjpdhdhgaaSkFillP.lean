/- skel.Fill. -/
import Derived.Test.YtgfhnbjpdhdhgaaSkFill
namespace Go.Proofs.Ytgfhnbjpdhdhgaa
open Go.RowKit
set_option linter.unusedVariables false

theorem setF_kind (i : Nat) (s t : SkT) : (setF i s t).1 = t.1 := by
  obtain ⟨s1, s2, s3, s4, s5, s6, s7⟩ := s
  obtain ⟨t1, t2, t3, t4, t5, t6, t7⟩ := t
  unfold setF
  split <;> simp_all
theorem setF_alg (i : Nat) (s t : SkT) : (setF i s t).2.2.1 = t.2.2.1 ∨ (setF i s t).2.2.1 = s.2.2.1 := by
  obtain ⟨s1, s2, s3, s4, s5, s6, s7⟩ := s
  obtain ⟨t1, t2, t3, t4, t5, t6, t7⟩ := t
  unfold setF
  split <;> simp_all
theorem fold_kind (s : SkT) (fs : List Nat) : ∀ t : SkT, (fs.foldl (fun t i => setF i s t) t).1 = t.1 := by
  induction fs with
  | nil => intro t; rfl
  | cons f fs ih => intro t; rw [List.foldl_cons, ih, setF_kind]
theorem fold_alg (s : SkT) (fs : List Nat) : ∀ t : SkT, (t.2.2.1 = 0 ∨ t.2.2.1 = s.2.2.1) → ((fs.foldl (fun t i => setF i s t) t).2.2.1 = 0 ∨ (fs.foldl (fun t i => setF i s t) t).2.2.1 = s.2.2.1) := by
  induction fs with
  | nil => intro t h; exact h
  | cons f fs ih =>
    intro t h
    rw [List.foldl_cons]
    refine ih _ ?_
    rcases setF_alg f s t with e | e
    · rw [e]; exact h
    · exact .inr e
theorem plainS_parts (k : UInt8) (h : Int) (a : UInt8) (c o d m : Int) : ∃ (h' : Int) (a' : UInt8) (c' o' d' m' : Int), plainS k ((k.toNat : Int), h, (a.toNat : Int), c, o, d, m) = ((k.toNat : Int), h', (a'.toNat : Int), c', o', d', m') := by
  have h1 := fold_kind ((k.toNat : Int), h, (a.toNat : Int), c, o, d, m) (sku k) ((k.toNat : Int), 0, 0, 0, 0, 0, 0)
  have h2 := fold_alg ((k.toNat : Int), h, (a.toNat : Int), c, o, d, m) (sku k) ((k.toNat : Int), 0, 0, 0, 0, 0, 0) (.inl rfl)
  unfold plainS
  generalize (sku k).foldl (fun t i => setF i ((k.toNat : Int), h, (a.toNat : Int), c, o, d, m) t) ((k.toNat : Int), 0, 0, 0, 0, 0, 0) = p at h1 h2 ⊢
  obtain ⟨p1, p2, p3, p4, p5, p6, p7⟩ := p
  simp only at h1 h2
  rcases h2 with rfl | rfl
  · exact ⟨p2, 0, p4, p5, p6, p7, by rw [h1]; rfl⟩
  · exact ⟨p2, a, p4, p5, p6, p7, by rw [h1]⟩

/-- what a call of Fill tells, of a plain skeleton -/
def FillP (k : UInt8) (h : Int) (a : UInt8) (c o d m : Int) (b : UInt8) (w : World) (e : Ending) (w' : World) : Prop :=
  ((0 ≤ d ∧ d ≤ 16777215 ∧ 0 ≤ m ∧ m ≤ 16777215) → ∃ v5 v6, e = .returned (.tuple #[opV k h a c o v5 v6, .int .i64 0]) ∧
    St w [] w' (lay [.row 5 1 v5 d.toNat ((List.replicate d.toNat b).map vb), .row 5 1 v6 m.toNat ((List.replicate m.toNat b).map vb)])) ∧
  (¬ (0 ≤ d ∧ d ≤ 16777215 ∧ 0 ≤ m ∧ m ≤ 16777215) → e = .returned (.tuple #[opV 0 0 0 0 0 (.slice none 0 0) (.slice none 0 0), .int .i64 2]) ∧ Below w.heap.size w w')

set_option maxRecDepth 100000 in
set_option maxHeartbeats 4000000 in
theorem skFill_s (k : UInt8) (h : Int) (a : UInt8) (c o d m : Int) (b : UInt8) (w : World) (h' : Int) (a' : UInt8) (c' o' d' m' : Int) (hp : plainS k ((k.toNat : Int), h, (a.toNat : Int), c, o, d, m) = ((k.toNat : Int), h', (a'.toNat : Int), c', o', d', m')) :
    Calls Try.prog 44 #[.agg #[.int .u8 (k.toNat : Int), .int .i64 h, .int .u8 (a.toNat : Int), .int .i64 c, .int .i64 o, .int .i64 d, .int .i64 m], .int .u8 (b.toNat : Int)] w (FillP k h' a' c' o' d' m' b w) := by
  have HP := Lib.hid hp
  clear hp
  have H0 := St.start_lay w []
  go_enter Try.func44, Try.ntmps44
  go_wp2_with fail
  refine absorb_calls (H0.allocAt 0 rfl w.heap.size rfl _ _ |>.push_mk rfl |>.allocAt 1 rfl (w.heap.size + 1) (by simp) _ _ |>.push_mk rfl) ?_
  intro w1 H
  generalize w.heap.size + 1 = gR at H ⊢
  generalize hga : w.heap.size = gA at H ⊢
  clear hga H0
  refine (plain_s k h (a.toNat : Int) c o d m w1).mono ?_
  rintro e w2 ⟨rfl, hb2⟩
  replace H := H.call hb2
  rw [HP.out]
  have H1 : St w [] (w2.setCells gA 0 [.int .u8 (k.toNat : Int), .int .i64 h', .int .u8 (a'.toNat : Int), .int .i64 c', .int .i64 o', .int .i64 d', .int .i64 m']) (lay [.blk gA 51 [.int .u8 (k.toNat : Int), .int .i64 h', .int .u8 (a'.toNat : Int), .int .i64 c', .int .i64 o', .int .i64 d', .int .i64 m'], .blk gR 31 [.int .u8 0, .int .i64 0, .int .u8 0, .int .i64 0, .int .i64 0, .slice none 0 0, .slice none 0 0]]) := (H.storeAll 0 rfl (vs := [.int .u8 (k.toNat : Int), .int .i64 h', .int .u8 (a'.toNat : Int), .int .i64 c', .int .i64 o', .int .i64 d', .int .i64 m']) rfl).upd_mk (by simp)
  have ht := H.there 0 rfl
  clear hb2 H
  by_cases hok : 0 ≤ d' ∧ d' ≤ 16777215 ∧ 0 ≤ m' ∧ m' ≤ 16777215
  · obtain ⟨d1, d2, m1, m2⟩ := hok
    go_wp2_with (refine wpList_store_mid rfl 51 (.tmp 2) (.tmp 7) rfl gA 0 (List.toArray [.int .u8 (k.toNat : Int), .int .i64 h', .int .u8 (a'.toNat : Int), .int .i64 c', .int .i64 o', .int .i64 d', .int .i64 m']) rfl rfl ht sk_size (all_oneCell_toArray (by simp [Value.oneCell'])) ?_; refine absorb_list H1 ?_; clear H1 ht; intro w3 H; have x5 := H.cell 0 rfl (o := 5) rfl; have x6 := H.cell 0 rfl (o := 6) rfl)
    have hd1 : Hid (d' = (d'.toNat : Int)) := by unfold Hid; omega
    have hm1 : Hid (m' = (m'.toNat : Int)) := by unfold Hid; omega
    have hd2 : d'.toNat ≤ 16777215 := by omega
    have hm2 : m'.toNat ≤ 16777215 := by omega
    have H1 := H.drew
    clear x5 x6
    go_region_held3 (fun w' => w'.cell? ⟨gA, 0, none⟩ = some (.int .u8 (k.toNat : Int)) ∧ w'.cell? ⟨gA, 1, none⟩ = some (.int .i64 h') ∧ w'.cell? ⟨gA, 2, none⟩ = some (.int .u8 (a'.toNat : Int)) ∧ w'.cell? ⟨gA, 3, none⟩ = some (.int .i64 c') ∧ w'.cell? ⟨gA, 4, none⟩ = some (.int .i64 o') ∧ w'.cell? ⟨gA, 5, none⟩ = some (.int .i64 d') ∧ w'.cell? ⟨gA, 6, none⟩ = some (.int .i64 m')) (first | with_reducible exact ⟨HS.cell 0 rfl rfl, HS.cell 0 rfl rfl, HS.cell 0 rfl rfl, HS.cell 0 rfl rfl, HS.cell 0 rfl rfl, HS.cell 0 rfl rfl, HS.cell 0 rfl rfl⟩ | with_reducible exact ⟨H6.cell 0 rfl rfl, H6.cell 0 rfl rfl, H6.cell 0 rfl rfl, H6.cell 0 rfl rfl, H6.cell 0 rfl rfl, H6.cell 0 rfl rfl, H6.cell 0 rfl rfl⟩ | with_reducible exact ⟨H5.cell 0 rfl rfl, H5.cell 0 rfl rfl, H5.cell 0 rfl rfl, H5.cell 0 rfl rfl, H5.cell 0 rfl rfl, H5.cell 0 rfl rfl, H5.cell 0 rfl rfl⟩ | with_reducible exact ⟨H1.cell 0 rfl rfl, H1.cell 0 rfl rfl, H1.cell 0 rfl rfl, H1.cell 0 rfl rfl, H1.cell 0 rfl rfl, H1.cell 0 rfl rfl, H1.cell 0 rfl rfl⟩) ((first | (go_at_call 66; with_reducible refine (fill_s m'.toNat b w5 hm1.out hm2).mono ?_; rintro e w6 ⟨v6, rfl, ho6, hb6⟩; obtain ⟨A6, n6, e6, rfl, hn6, -⟩ := ho6.shape; have H6 := (H5.pushOwnB 3 rfl ho6 hb6).push_mk rfl; have f0 := H6.cell 1 rfl (o := 0) rfl; have g0 := H6.free 1 rfl 0; have f1 := H6.cell 1 rfl (o := 1) rfl; have g1 := H6.free 1 rfl 1; have f2 := H6.cell 1 rfl (o := 2) rfl; have g2 := H6.free 1 rfl 2; have f3 := H6.cell 1 rfl (o := 3) rfl; have g3 := H6.free 1 rfl 3; have f4 := H6.cell 1 rfl (o := 4) rfl; have g4 := H6.free 1 rfl 4; have f5 := H6.cell 1 rfl (o := 5) rfl; have g5 := H6.free 1 rfl 5; have f6 := H6.cell 1 rfl (o := 6) rfl; have g6 := H6.free 1 rfl 6; have n01 := H6.ne 0 1 rfl rfl (by omega); have HS := ((((((((((((((H6.store 1 rfl (o := 0) (u := .int .u8 (k.toNat : Int))).upd_mk (by simp)).store 1 rfl (o := 1) (u := .int .i64 h')).upd_mk (by simp)).store 1 rfl (o := 2) (u := .int .u8 (a'.toNat : Int))).upd_mk (by simp)).store 1 rfl (o := 3) (u := .int .i64 c')).upd_mk (by simp)).store 1 rfl (o := 4) (u := .int .i64 o')).upd_mk (by simp)).store 1 rfl (o := 5) (u := .slice A5 n5 e5)).upd_mk (by simp)).store 1 rfl (o := 6) (u := .slice A6 n6 e6)).upd_mk (by simp))) | (go_at_call 66; with_reducible refine (fill_s d'.toNat b w3.drew hd1.out hd2).mono ?_; rintro e w5 ⟨v5, rfl, ho5, hb5⟩; obtain ⟨A5, n5, e5, rfl, hn5, -⟩ := ho5.shape; have H5 := (H1.pushOwnB 2 rfl ho5 hb5).push_mk rfl)))
    all_goals go_wp2_with fail
    all_goals
      refine bodyPost_ret (results_cell1 rfl _ _ gR 31 #[.int .u8 (k.toNat : Int), .int .i64 h', .int .u8 (a'.toNat : Int), .int .i64 c', .int .i64 o', .slice A5 n5 e5, .slice A6 n6 e6] _ _ rfl (HS.blk 1 rfl) Try.underlying31 rfl op_size) rfl ?_
      refine ⟨fun _ => ⟨.slice A5 n5 e5, .slice A6 n6 e6, rfl, ?_⟩, fun hno => absurd ⟨d1, d2, m1, m2⟩ hno⟩
      refine (HS.shape_row 2 rfl (n' := d'.toNat) (xs' := (List.replicate d'.toNat b).map vb) (by simp) rfl).shape_row 3 rfl (n' := m'.toNat) (xs' := (List.replicate m'.toNat b).map vb) (by simp) rfl |>.perm [2, 3] 2 rfl (by decide) (by intro i hi; match i with | 0 => rfl | 1 => rfl | i + 2 => omega)
  · have HNO := Lib.hid hok
    have hc : d' < 0 ∨ (0 ≤ d' ∧ 16777215 < d') ∨ (0 ≤ d' ∧ d' ≤ 16777215 ∧ m' < 0) ∨ (0 ≤ d' ∧ d' ≤ 16777215 ∧ 0 ≤ m' ∧ 16777215 < m') := by omega
    clear hok
    rcases hc with hc | ⟨hc1, hc2⟩ | ⟨hc1, hc2, hc3⟩ | ⟨hc1, hc2, hc3, hc4⟩
    all_goals
      go_wp2_with (first | (refine wpList_store_mid rfl 31 (.tmp 4) (.tmp 26) rfl gR 0 _ rfl rfl ht2 op_size (by simp [Value.oneCell']) ?_) | (refine wpList_store_mid rfl 51 (.tmp 2) (.tmp 7) rfl gA 0 (List.toArray [.int .u8 (k.toNat : Int), .int .i64 h', .int .u8 (a'.toNat : Int), .int .i64 c', .int .i64 o', .int .i64 d', .int .i64 m']) rfl rfl ht sk_size (all_oneCell_toArray (by simp [Value.oneCell'])) ?_; refine absorb_list H1 ?_; clear H1 ht; intro w3 H; have x5 := H.cell 0 rfl (o := 5) rfl; have x6 := H.cell 0 rfl (o := 6) rfl; have ht2 := H.there 1 rfl))
      have HZ := (H.storeAll 1 rfl (vs := [.int .u8 0, .int .i64 0, .int .u8 0, .int .i64 0, .int .i64 0, .slice none 0 0, .slice none 0 0]) rfl).upd_mk (by simp)
      refine bodyPost_ret (results_cell1 rfl _ _ gR 31 _ _ _ rfl (HZ.blk 1 rfl) Try.underlying31 rfl op_size) rfl ?_
      exact ⟨fun h => absurd h HNO.out, fun _ => ⟨rfl, HZ.below⟩⟩
end Go.Proofs.Ytgfhnbjpdhdhgaa
