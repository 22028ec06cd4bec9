/- A slice of one's own and what it was gone on with: on one block, or on two. Nothing here speaks of the program. -/
import Derived.Test.YtgfhnbjpdhdhgaaFlat
namespace Go.Proofs.Ytgfhnbjpdhdhgaa
open Go.RowKit
set_option linter.unusedVariables false

/-- u is v, gone on with: on the block of v, or on one of its own -/
def isTwo (v : Value) (n : Nat) (u : Value) (m : Nat) : Prop := (v.ownBlock = none ∨ v.ownBlock ≠ u.ownBlock) ∨ ∃ g c, v = .slice (some ⟨g, 0, none⟩) n c ∧ u = .slice (some ⟨g, 0, none⟩) m c
def Own.two (e : TypeId) (size : Nat) (v : Value) (n : Nat) (xs : List Value) (u : Value) (m : Nat) (ys : List Value) : Own where
  holds w F := w.ownsRow 0 e size v n xs ∧ w.ownsRow 0 e size u m ys ∧ isTwo v n u m ∧ F = v.ownBlock.toList ++ u.ownBlock.toList
  loc := fun ⟨h1, h2, h3, e⟩ k => ⟨ownsRow_loc h1 (fun g hg => k g (by rw [e]; simp only [List.mem_append]; exact .inl hg)), ownsRow_loc h2 (fun g hg => k g (by rw [e]; simp only [List.mem_append]; exact .inr hg)), h3, e⟩
  old := fun ⟨h1, h2, _, e⟩ g hg => by
    rw [e, List.mem_append] at hg
    rcases hg with hg | hg
    · cases hv : Value.ownBlock _ with
      | none => rw [hv] at hg; simp at hg
      | some b => rw [hv] at hg; simp at hg; subst hg; exact (World.ownsRow.lt h1 _ hv).2
    · cases hv : Value.ownBlock _ with
      | none => rw [hv] at hg; simp at hg
      | some b => rw [hv] at hg; simp at hg; subst hg; exact (World.ownsRow.lt h2 _ hv).2

section
variable {w0 w w' : World} {F0 : List Nat} {E : Env} {e : TypeId} {size n m : Nat} {v u : Value} {xs ys : List Value}
theorem St.dup (H : St w0 F0 w E) (k : Nat) (hk : E k = some (.row e size v n xs)) : St w0 F0 w (upd E k (.two e size v n xs v n xs)) := by
  obtain ⟨F, ⟨h, e1⟩, h2, -, hc⟩ := H.change k hk
  refine hc w _ (F ++ F) ⟨h, h, ?_, by rw [e1]⟩ (Low.refl _ _) (by intro g hg; rw [List.mem_append] at hg; exact .inl (hg.elim id id))
  rcases h.2 with ⟨rfl, h0⟩ | ⟨g, cap, cur, rfl, _⟩
  · exact .inl (.inl rfl)
  · exact .inr ⟨g, cap, rfl, rfl⟩
theorem St.two1 (H : St w0 F0 w E) (k : Nat) (hk : E k = some (.two e size v n xs u m ys)) : w.ownsRow 0 e size v n xs := by
  obtain ⟨F, ⟨h, -⟩, -⟩ := H.change k hk
  exact h
theorem St.two2 (H : St w0 F0 w E) (k : Nat) (hk : E k = some (.two e size v n xs u m ys)) : w.ownsRow 0 e size u m ys := by
  obtain ⟨F, ⟨-, h, -⟩, -⟩ := H.change k hk
  exact h
/-- what an append leaves: the same row gone on with, or a new one -/
def Went (w w' : World) (u : Value) (m q : Nat) (u' : Value) : Prop := (∃ g cap, u = .slice (some ⟨g, 0, none⟩) m cap ∧ u' = .slice (some ⟨g, 0, none⟩) (m + q) cap ∧ w.grownBy w' (some g)) ∨ (u'.ownBlock = some w.heap.size ∧ Below w.heap.size w w')

theorem St.went {zs : List Value} {u' : Value} {q : Nat} (H : St w0 F0 w E) (k : Nat) (hk : E k = some (.two e size v n xs u m ys)) (hu : w'.ownsRow 0 e size u' (m + q) (ys ++ zs)) (hw : Went w w' u m q u') (hpre : xs = ys.take xs.length) : St w0 F0 w' (upd E k (.two e size v n xs u' (m + q) (ys ++ zs))) := by
  obtain ⟨F, ⟨h1, h2, h3, e1⟩, -, -, hc⟩ := H.change k hk
  rcases hw with ⟨g, cap, rfl, rfl, hg⟩ | ⟨hb, hbel⟩
  · have hlow : Low w F w' := (Low.of_grown hg).more (by intro a ha; rw [e1]; simp at ha; subst ha; simp [Value.ownBlock])
    refine hc w' _ (v.ownBlock.toList ++ [g]) ⟨?_, hu, ?_, rfl⟩ hlow (by intro a ha; rw [e1]; simp [Value.ownBlock] at ha ⊢; exact .inl ha)
    · rcases h3 with h3 | ⟨g', c', rfl, h4⟩
      · exact World.ownsRow.kept h1 hg h3
      · injection h4 with e2 _ e4
        injection e2 with e2
        injection e2 with e2
        subst e2 e4
        rcases h1.2 with ⟨h, _⟩ | ⟨g1, c1, cur1, h, hb1, hg1, hn1, hc1, hs1, ht1⟩
        · cases h
        injection h with e2 _ e4
        injection e2 with e2
        injection e2 with e2
        subst e2 e4
        rcases hu.2 with ⟨h, _⟩ | ⟨g2, c2, cur2, h, hb2, hg2, hn2, hc2, hs2, ht2⟩
        · cases h
        injection h with e2 _ e4
        injection e2 with e2
        injection e2 with e2
        subst e2 e4
        refine ⟨h1.1, .inr ⟨g, cap, cur2, rfl, hb1, hg2, hn1, hc1, hs2, ?_⟩⟩
        have hx := h1.1
        have hy := h2.1
        have hle : xs.length ≤ ys.length := by
          have h5 := congrArg List.length hpre
          rw [List.length_take] at h5
          omega
        have h5 : (cur2.toList.take ((m + q) * size)).take (n * size) = (ys ++ zs).take (n * size) := by rw [ht2]
        rw [List.take_take, Nat.min_eq_left (by have := hu.1; rw [List.length_append] at this; omega)] at h5
        rw [h5, ← hx, List.take_append_of_le_length hle, ← hpre]
    · rcases h3 with h3 | ⟨g', c', rfl, h4⟩
      · exact .inl h3
      · injection h4 with e2 _ e4
        injection e2 with e2
        injection e2 with e2
        subst e2 e4
        exact .inr ⟨_, _, rfl, rfl⟩
  · have hne : v.ownBlock = none ∨ v.ownBlock ≠ u'.ownBlock := by
      cases hv : v.ownBlock with
      | none => exact .inl rfl
      | some b =>
        refine .inr fun h => ?_
        rw [hb] at h
        injection h with h
        have := (World.ownsRow.lt h1 _ hv).2
        omega
    refine hc w' _ (v.ownBlock.toList ++ [w.heap.size]) ⟨ownsRow_loc h1 (fun a ha => hbel.block a ?_), hu, .inl hne, by rw [hb]; rfl⟩ (Low.of_below hbel F) (by intro a ha; rw [e1]; simp at ha ⊢; rcases ha with h | h; exact .inl (.inl h); exact .inr (by omega))
    cases hv : v.ownBlock with
    | none => rw [hv] at ha; simp at ha
    | some b => rw [hv] at ha; simp at ha; subst ha; exact (World.ownsRow.lt h1 _ hv).2
end

/-- What an append onto an owned row leaves. -/
theorem append_went {P : Program} (w : World) (base : Nat) (t ty e : TypeId) (i : TypeInfo) (z : Value) (size bytes : Nat) (ht : P.underlying t = some (.slice e)) (hi : P.info? e = some i) (hz : i.zero = some z)
    (hsize : i.size = size) (hby : i.bytes = bytes) (hzs : z.cells.size = size) (hsz : 0 < size)
    (v : Value) (n : Nat) (xs : List Value) (hown : w.ownsRow base e size v n xs)
    (a : Addr) (m c : Nat) (news : List Value) (hm : 0 < m) (hl : news.length = m * size) (hnews : ∀ j u, news[j]? = some u → w.cell? (a.add j) = some u) (h1 : ∀ u ∈ news, u.oneCell' = true)
    (h63 : n + m ≤ maxLen) (hbytes : (n + m) * bytes ≤ 140737488355328) (hbase : base ≤ w.heap.size) :
    ∃ v' w', (Builtin.append_ #[t, t] ty #[v, .slice (some a) m c]).run P w = .ok v' w' ∧ w'.ownsRow base e size v' (n + m) (xs ++ news) ∧ Went w w' v n m v' := by
  subst hby
  have hsmall : n + m ≤ 9223372036854775807 := by simp only [maxLen] at h63; omega
  have hlen : (xs ++ news).length = (n + m) * size := by rw [List.length_append, hown.1, hl, Nat.add_mul]
  have grown : ∀ (old : Nat), old < n + m →
      (w.drew.alloc (.cells (xs.toArray ++ news.toArray ++ Builtin.zeroCells z.cells (grownCap w (n + m) old e - (n + m))) e)).ownsRow base e size
        (.slice (some ⟨w.heap.size, 0, none⟩) (n + m) (grownCap w (n + m) old e)) (n + m) (xs ++ news) := by
    intro old ho
    have hge := grownCap_ge w (n + m) old e
    have hcm : grownCap w (n + m) old e ≤ maxLen := grownCap_le_maxLen w (n + m) old e h63
    refine ⟨hlen, .inr ⟨w.heap.size, _, _, rfl, hbase, heap_alloc_new w.drew _, hge, hcm, ?_, ?_⟩⟩
    · simp only [Array.size_append, List.size_toArray, size_zeroCells, hzs, hown.1, hl, ← Nat.add_mul]
      congr 1
      omega
    · simp only [Array.toList_append, List.append_assoc]
      rw [← List.append_assoc, ← hlen]
      exact List.take_left
  have hbel : ∀ o, Below w.heap.size w (w.drew.alloc o) := fun o => (Below.refl _ _).drew.alloc (Nat.le_refl _) _
  rcases hown.2 with ⟨rfl, rfl⟩ | ⟨g, cap, cur, rfl, hbg, hg, hnc, hcm, hcs, htake⟩
  · have hx : xs = [] := List.eq_nil_of_length_eq_zero (by simpa using hown.1)
    subst hx
    have hr := run_append_nil (P := P) w t ty e i z ht hi hz a m c news (by rw [hsize]; exact hl) hnews (by omega) (by omega) (by have hb := hbytes; simp only [Nat.zero_add] at hb; omega)
    have hgr := grown 0 (by omega)
    simp only [Nat.zero_add, List.nil_append, Array.empty_append] at hgr ⊢
    exact ⟨_, _, hr, hgr, .inr ⟨rfl, hbel _⟩⟩
  · by_cases hroom : n + m ≤ cap
    · have hfit : n * i.size + news.length ≤ cur.size := by rw [hsize, hl, hcs, ← Nat.add_mul]; exact Nat.mul_le_mul_right _ hroom
      have hr := run_append_room (P := P) w t ty e i ht hi g n cap cur hg a m c news (by rw [hsize]; exact hl) hnews h1 hroom hfit
      refine ⟨_, _, hr, ⟨hlen, .inr ⟨g, cap, _, rfl, hbg, setRow_heap w g cur _ e _ hg, hroom, hcm, ?_, ?_⟩⟩, .inl ⟨g, cap, rfl, rfl, ⟨rfl, rfl, rfl, by simp, fun k _ hk => setRow_other w g k _ (fun e => hk (by simp [e]))⟩⟩⟩
      · simp only [List.size_toArray, List.length_append, List.length_take, List.length_drop, Array.length_toList]
        omega
      · rw [hsize, htake, ← hlen]
        exact List.take_left
    · have holds : ∀ j u, xs[j]? = some u → w.cell? ((⟨g, 0, none⟩ : Addr).add j) = some u := hown.cells (g := g) rfl
      have hr := run_append_grow (P := P) w t ty e i z ht hi hz ⟨g, 0, none⟩ n cap xs (by rw [hsize]; exact hown.1) holds a m c news (by rw [hsize]; exact hl) hnews (by omega) (by omega) (growslice_fits (by omega) hbytes)
      exact ⟨_, _, hr, grown cap (by omega), .inr ⟨rfl, hbel _⟩⟩

theorem wpList_append_went {P : Program} (w : World) {ops : Array Oper} {rest : List Oper} {o : Oper} {a : Act} {Q : Exit → Act → World → Prop} (hgd : o.guard = none) (s x : Operand) (t : TypeId)
    (ho : o.op = .call { callee := .builtin .append, args := #[s, x], argTypes := #[t, t] })
    (base : Nat) (e : TypeId) (i : TypeInfo) (z : Value) (size bytes : Nat) (ht : P.underlying t = some (.slice e)) (hi : P.info? e = some i) (hz : i.zero = some z)
    (hsize : i.size = size) (hby : i.bytes = bytes) (hzs : z.cells.size = size) (hsz : 0 < size)
    (v : Value) (n : Nat) (xs : List Value) (hs : a.eval s = v) (hown : w.ownsRow base e size v n xs)
    (ad : Addr) (m c : Nat) (news : List Value) (hx : a.eval x = .slice (some ad) m c) (hm : 0 < m) (hl : news.length = m * size) (hnews : ∀ j u, news[j]? = some u → w.cell? (ad.add j) = some u) (h1 : ∀ u ∈ news, u.oneCell' = true)
    (h63 : n + m ≤ maxLen) (hbytes : (n + m) * bytes ≤ 140737488355328) (hbase : base ≤ w.heap.size)
    (h : ∀ v' w', w'.ownsRow base e size v' (n + m) (xs ++ news) → Went w w' v n m v' → wpList P ops Q rest (a.put o.dst v') w') : wpList P ops Q (o :: rest) a w :=
  wpList_plain hgd fun _ hK => by
    obtain ⟨v', w', hr, h2, h3⟩ := append_went (P := P) w base t o.type e i z size bytes ht hi hz hsize hby hzs hsz v n xs hown ad m c news hm hl hnews h1 h63 hbytes hbase
    unfold Oper.wp execOp
    simp only [ho, resolve, invoke, builtin, Sem.run_bind, Sem.run_pure, Result.andThen_ok, List.map_toArray, List.map_cons, List.map_nil, hs, hx, hr]
    exact hK _ _ (h v' w' h2 h3)
end Go.Proofs.Ytgfhnbjpdhdhgaa
