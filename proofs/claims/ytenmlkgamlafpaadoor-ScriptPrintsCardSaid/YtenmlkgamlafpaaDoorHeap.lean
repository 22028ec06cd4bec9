/- Families of byte slices in memory of the call's own: what stays theirs when one of them is written or appended to. Plain laws on worlds; no program is walked. -/
import Derived.Test.YtenmlkgamlafpaaDoorRows
import Derived.Test.YtenmlkgamlafpaaDoorLib
import Derived.Test.YtenmlkgamlafpaaDoorKitB
namespace Go.Proofs.YtenmlkgamlafpaaDoor
open Go.RowKit

theorem OwnB.len_eq {w : World} {base n c : Nat} {A : Option Addr} {l : List UInt8} (h : OwnB w base (.slice A n c) l) : n = l.length := by
  rcases h.2 with ⟨h', h2⟩ | ⟨g', cap', cur, h', _⟩
  · injection h' with _ h3; omega
  · injection h'
theorem OwnB.form {w : World} {base n c : Nat} {A : Option Addr} {l : List UInt8} (h : OwnB w base (.slice A n c) l) (hn : 0 < n) : ∃ g, A = some ⟨g, 0, none⟩ ∧ base ≤ g ∧ g < w.heap.size := by
  rcases h.2 with ⟨h', h2⟩ | ⟨g', cap', cur, h', hb, hg, _⟩
  · injection h' with _ h3; omega
  · injection h' with h4 _; exact ⟨g', h4, hb, (Array.getElem?_eq_some_iff.1 hg).1⟩
theorem OwnB.lt {w : World} {base : Nat} {v : Value} {l : List UInt8} (h : OwnB w base v l) : ∀ g, v.ownBlock = some g → base ≤ g ∧ g < w.heap.size := World.ownsRow.lt h
theorem OwnB.kept {w w' : World} {base : Nat} {v : Value} {l : List UInt8} {row : Option Nat} (h : OwnB w base v l) (hg : w.grownBy w' row) (hne : v.ownBlock = none ∨ v.ownBlock ≠ row) : OwnB w' base v l := World.ownsRow.kept h hg hne
theorem OwnB.drewN {w : World} {base : Nat} {v : Value} {l : List UInt8} (h : OwnB w base v l) (n : Nat) : OwnB (w.drewN n) base v l := h
theorem OwnB.alloc {w : World} {base : Nat} {v : Value} {l : List UInt8} (h : OwnB w base v l) (o : Obj) : OwnB (w.alloc o) base v l := World.ownsRow.alloc h o

theorem OwnB.lent {w : World} {base n : Nat} {v : Value} {l : List UInt8} (h : OwnB w base v (l ++ marksB 7 0 6)) (hn : l.length = n) : ∃ g c, v = .slice (some ⟨g, 0, none⟩) (n + 6) c ∧ n + 6 ≤ c ∧ base ≤ g ∧ g < w.heap.size := by
  rcases h.2 with ⟨rfl, h0⟩ | ⟨g, cap, cur, rfl, hb, hg, hnc, _⟩
  · rw [List.length_append, marksB_length] at h0; omega
  · rw [List.length_append, marksB_length, hn] at hnc ⊢
    exact ⟨g, cap, rfl, hnc, hb, (Array.getElem?_eq_some_iff.1 hg).1⟩
theorem OwnB.front {w : World} {base g n c : Nat} {l m : List UInt8} (h : OwnB w base (.slice (some ⟨g, 0, none⟩) n c) (l ++ m)) : OwnB w base (.slice (some ⟨g, 0, none⟩) l.length c) l := by
  rcases h.2 with ⟨h', _⟩ | ⟨g', cap, cur, h', hb, hg, hnc, hcm, hs, htk⟩
  · cases h'
  injection h' with e1 e2 e3
  injection e1 with e1
  injection e1 with e1
  subst e1 e2 e3
  rw [List.length_append] at hnc htk
  refine ⟨by simp, .inr ⟨g, c, cur, rfl, hb, hg, by omega, hcm, hs, ?_⟩⟩
  have : (cur.toList.take ((l.length + m.length) * 1)).take (l.length * 1) = ((l ++ m).map vb).take (l.length * 1) := by rw [htk]
  rw [List.take_take, Nat.min_eq_left (by omega)] at this
  rw [this, List.map_append, Nat.mul_one]
  exact List.take_left' (by simp)

/-- Two owned rows on one block: after the longer one has been gone on with in place, the shorter one is as it was. -/
theorem OwnB.same_block {w w' : World} {base : Nat} {v u : Value} {l m : List UInt8} {b : Nat} (hv : OwnB w base v l) (hu : OwnB w' base u m) (hg : w.heap[b]? ≠ none)
    (hvb : v.ownBlock = some b) (hub : u.ownBlock = some b) (hcap : ∀ n n' c c', v = .slice (some ⟨b, 0, none⟩) n c → u = .slice (some ⟨b, 0, none⟩) n' c' → c = c') (hpre : l = m.take l.length) : OwnB w' base v l := by
  rcases hv.2 with ⟨rfl, _⟩ | ⟨g, cap, cur, rfl, hb, hgg, hnc, hcm, hsz, htk⟩
  · simp [Value.ownBlock] at hvb
  rcases hu.2 with ⟨rfl, _⟩ | ⟨g', cap', cur', rfl, hb', hgg', hnc', hcm', hsz', htk'⟩
  · simp [Value.ownBlock] at hub
  simp [Value.ownBlock] at hvb hub
  subst hvb
  subst hub
  have hc := hcap _ _ _ _ rfl rfl
  subst hc
  refine ⟨by simp, .inr ⟨g', cap, cur', rfl, hb, hgg', hnc, hcm, hsz', ?_⟩⟩
  have h1 : l.length ≤ m.length := by rw [hpre]; simp [List.length_take]; omega
  have h2 : (cur'.toList.take (m.length * 1)).take (l.length * 1) = (m.map vb).take (l.length * 1) := by rw [htk']
  rw [List.take_take, Nat.min_eq_left (by omega)] at h2
  rw [h2, Nat.mul_one, ← List.map_take, ← hpre]

/-- What an append onto an owned row leaves: the same row gone on with, or a new one. -/
theorem append_two {P : Program} (w : World) (base : Nat) (t ty e : TypeId) (i : TypeInfo) (z : Value) (bytes : Nat) (ht : P.underlying t = some (.slice e)) (hi : P.info? e = some i) (hz : i.zero = some z)
    (hsize : i.size = 1) (hby : i.bytes = bytes) (hzs : z.cells.size = 1)
    (v : Value) (n : Nat) (xs : List Value) (hown : w.ownsRow base e 1 v n xs)
    (a : Addr) (m c : Nat) (news : List Value) (hm : 0 < m) (hl : news.length = m * 1) (hnews : ∀ j u, news[j]? = some u → w.cell? (a.add j) = some u) (h1 : ∀ u ∈ news, u.oneCell' = true)
    (h63 : n + m ≤ maxLen) (hbytes : (n + m) * bytes ≤ 140737488355328) (hbase : base ≤ w.heap.size) :
    ∃ v' w', (Builtin.append_ #[t, t] ty #[v, .slice (some a) m c]).run P w = .ok v' w' ∧ w'.ownsRow base e 1 v' (n + m) (xs ++ news) ∧
      ((∃ g cap, v = .slice (some ⟨g, 0, none⟩) n cap ∧ v' = .slice (some ⟨g, 0, none⟩) (n + m) cap ∧ w.grownBy w' (some g)) ∨
       (v'.ownBlock = some w.heap.size ∧ Below w.heap.size w w')) := by
  subst hby
  have hsmall : n + m ≤ 9223372036854775807 := by simp only [maxLen] at h63; omega
  have hlen : (xs ++ news).length = (n + m) * 1 := by rw [List.length_append, hown.1, hl, Nat.add_mul]
  have grown : ∀ (old : Nat), old < n + m →
      (w.drew.alloc (.cells (xs.toArray ++ news.toArray ++ Builtin.zeroCells z.cells (grownCap w (n + m) old e - (n + m))) e)).ownsRow base e 1
        (.slice (some ⟨w.heap.size, 0, none⟩) (n + m) (grownCap w (n + m) old e)) (n + m) (xs ++ news) := by
    intro old ho
    have hge := grownCap_ge w (n + m) old e
    have hcm : grownCap w (n + m) old e ≤ maxLen := grownCap_le_maxLen w (n + m) old e h63
    refine ⟨hlen, .inr ⟨w.heap.size, _, _, rfl, hbase, heap_alloc_new w.drew _, hge, hcm, ?_, ?_⟩⟩
    · simp only [Array.size_append, List.size_toArray, size_zeroCells, hzs, hown.1, hl]
      omega
    · simp only [Array.toList_append, List.append_assoc]
      rw [← List.append_assoc, ← hlen]
      exact List.take_left
  have hbel : ∀ o, Below w.heap.size w (w.drew.alloc o) := fun o => (Below.refl _ _).drew.alloc (Nat.le_refl _) _
  rcases hown.2 with ⟨rfl, rfl⟩ | ⟨g, cap, cur, rfl, hbg, hg, hnc, hcm, hcs, htake⟩
  · have hx : xs = [] := List.eq_nil_of_length_eq_zero (by simpa using hown.1)
    subst hx
    have hr := run_append_nil (P := P) w t ty e i z ht hi hz a m c news (by rw [hsize]; exact hl) hnews (by omega) (by omega) (by have hb := hbytes; simp only [Nat.zero_add] at hb; omega)
    have hgr := grown 0 (by omega)
    simp only [Nat.zero_add, List.nil_append, Array.empty_append] at hgr ⊢
    exact ⟨_, _, hr, hgr, .inr ⟨rfl, hbel _⟩⟩
  · by_cases hroom : n + m ≤ cap
    · have hfit : n * i.size + news.length ≤ cur.size := by rw [hsize, hl, hcs, ← Nat.add_mul]; exact Nat.mul_le_mul_right _ hroom
      have hr := run_append_room (P := P) w t ty e i ht hi g n cap cur hg a m c news (by rw [hsize]; exact hl) hnews h1 hroom hfit
      refine ⟨_, _, hr, ⟨hlen, .inr ⟨g, cap, _, rfl, hbg, setRow_heap w g cur _ e _ hg, hroom, hcm, ?_, ?_⟩⟩, .inl ⟨g, cap, rfl, rfl, ⟨rfl, rfl, rfl, by simp, fun k _ hk => setRow_other w g k _ (fun e => hk (by simp [e]))⟩⟩⟩
      · simp only [List.size_toArray, List.length_append, List.length_take, List.length_drop, Array.length_toList]
        rw [hsize]
        omega
      · rw [hsize, htake, ← hlen]
        exact List.take_left
    · have holds : ∀ j u, xs[j]? = some u → w.cell? ((⟨g, 0, none⟩ : Addr).add j) = some u := hown.cells (g := g) rfl
      have hr := run_append_grow (P := P) w t ty e i z ht hi hz ⟨g, 0, none⟩ n cap xs (by rw [hsize]; exact hown.1) holds a m c news (by rw [hsize]; exact hl) hnews (by omega) (by omega) (growslice_fits (by omega) hbytes)
      exact ⟨_, _, hr, grown cap (by omega), .inr ⟨rfl, hbel _⟩⟩

theorem wp_append_two {P : Program} (w : World) {o : Oper} {a : Act} {K : Act → World → Prop} {Q : Exit → Act → World → Prop} (s x : Operand) (t : TypeId)
    (ho : o.op = .call { callee := .builtin .append, args := #[s, x], argTypes := #[t, t] })
    (base : Nat) (e : TypeId) (i : TypeInfo) (z : Value) (bytes : Nat) (ht : P.underlying t = some (.slice e)) (hi : P.info? e = some i) (hz : i.zero = some z)
    (hsize : i.size = 1) (hby : i.bytes = bytes) (hzs : z.cells.size = 1)
    (v : Value) (n : Nat) (xs : List Value) (hs : a.eval s = v) (hown : w.ownsRow base e 1 v n xs)
    (ad : Addr) (m c : Nat) (news : List Value) (hx : a.eval x = .slice (some ad) m c) (hm : 0 < m) (hl : news.length = m * 1) (hnews : ∀ j u, news[j]? = some u → w.cell? (ad.add j) = some u) (h1 : ∀ u ∈ news, u.oneCell' = true)
    (h63 : n + m ≤ maxLen) (hbytes : (n + m) * bytes ≤ 140737488355328) (hbase : base ≤ w.heap.size)
    (h : ∀ v' w', w'.ownsRow base e 1 v' (n + m) (xs ++ news) → ((∃ g cap, v = .slice (some ⟨g, 0, none⟩) n cap ∧ v' = .slice (some ⟨g, 0, none⟩) (n + m) cap ∧ w.grownBy w' (some g)) ∨
       (v'.ownBlock = some w.heap.size ∧ Below w.heap.size w w')) → K (a.put o.dst v') w') : o.wp P a w K Q := by
  obtain ⟨v', w', hr, h2, h3⟩ := append_two (P := P) w base t o.type e i z bytes ht hi hz hsize hby hzs v n xs hown ad m c news hm hl hnews h1 h63 hbytes hbase
  unfold Oper.wp execOp
  simp only [ho, resolve, invoke, builtin, Sem.run_bind, Sem.run_pure, Result.andThen_ok, List.map_toArray, List.map_cons, List.map_nil, hs, hx, hr]
  exact h v' w' h2 h3

theorem wpList_append_two {P : Program} (w : World) {ops : Array Oper} {rest : List Oper} {o : Oper} {a : Act} {Q : Exit → Act → World → Prop} (hgd : o.guard = none) (s x : Operand) (t : TypeId)
    (ho : o.op = .call { callee := .builtin .append, args := #[s, x], argTypes := #[t, t] })
    (base : Nat) (e : TypeId) (i : TypeInfo) (z : Value) (bytes : Nat) (ht : P.underlying t = some (.slice e)) (hi : P.info? e = some i) (hz : i.zero = some z)
    (hsize : i.size = 1) (hby : i.bytes = bytes) (hzs : z.cells.size = 1)
    (v : Value) (n : Nat) (xs : List Value) (hs : a.eval s = v) (hown : w.ownsRow base e 1 v n xs)
    (ad : Addr) (m c : Nat) (news : List Value) (hx : a.eval x = .slice (some ad) m c) (hm : 0 < m) (hl : news.length = m * 1) (hnews : ∀ j u, news[j]? = some u → w.cell? (ad.add j) = some u) (h1 : ∀ u ∈ news, u.oneCell' = true)
    (h63 : n + m ≤ maxLen) (hbytes : (n + m) * bytes ≤ 140737488355328) (hbase : base ≤ w.heap.size)
    (h : ∀ v' w', w'.ownsRow base e 1 v' (n + m) (xs ++ news) → ((∃ g cap, v = .slice (some ⟨g, 0, none⟩) n cap ∧ v' = .slice (some ⟨g, 0, none⟩) (n + m) cap ∧ w.grownBy w' (some g)) ∨
       (v'.ownBlock = some w.heap.size ∧ Below w.heap.size w w')) → wpList P ops Q rest (a.put o.dst v') w') : wpList P ops Q (o :: rest) a w :=
  wpList_plain hgd fun _ hK => wp_append_two w s x t ho base e i z bytes ht hi hz hsize hby hzs v n xs hs hown ad m c news hx hm hl hnews h1 h63 hbytes hbase fun v' w' h2 h3 => hK _ _ (h v' w' h2 h3)

theorem two_grown {w w' : World} {n m : Nat} {v v' : Value}
    (hcase : (∃ g cap, v = .slice (some ⟨g, 0, none⟩) n cap ∧ v' = .slice (some ⟨g, 0, none⟩) (n + m) cap ∧ w.grownBy w' (some g)) ∨ (v'.ownBlock = some w.heap.size ∧ Below w.heap.size w w')) : w.grownBy w' v.ownBlock := by
  rcases hcase with ⟨g, cap, rfl, rfl, hg⟩ | ⟨_, hb⟩
  · exact hg
  · exact ⟨hb.os, hb.tape, hb.output, hb.size, fun k hk _ => hb.block k hk⟩
theorem OwnB.of_mark {w : World} {base a n : Nat} {v : Value} (h : w.ownsRow base 5 1 v (n + 1) ((marksB a 0 n).map vb ++ [vb (markB a n)])) : OwnB w base v (marksB a 0 (n + 1)) := by
  rw [marksB_succ, Nat.zero_add]
  apply OwnB.of_push
  rw [marksB_length]
  exact h

/-- Families: index j < N has some owned slices; different indexes never share a block. -/
structure Fam (w : World) (base : Nat) (N : Nat) (F : Nat → List (Value × List UInt8)) : Prop where
  own : ∀ j, j < N → ∀ p ∈ F j, OwnB w base p.1 p.2
  apart : ∀ i j, i < N → j < N → i ≠ j → ∀ p ∈ F i, ∀ q ∈ F j, p.1.ownBlock = none ∨ p.1.ownBlock ≠ q.1.ownBlock

theorem Fam.congr {w : World} {base N : Nat} {F G : Nat → List (Value × List UInt8)} (h : Fam w base N F) (hFG : ∀ j, j < N → G j = F j) : Fam w base N G :=
  ⟨fun j hj p hp => h.own j hj p (by rwa [← hFG j hj]), fun i j hi hj hne p hp q hq => h.apart i j hi hj hne p (by rwa [← hFG i hi]) q (by rwa [← hFG j hj])⟩
theorem Fam.below {w w' : World} {base N : Nat} {F : Nat → List (Value × List UInt8)} (h : Fam w base N F) (hb : Below w.heap.size w w') : Fam w' base N F :=
  ⟨fun j hj p hp => (h.own j hj p hp).below hb, h.apart⟩
theorem Fam.alloc {w : World} {base N : Nat} {F : Nat → List (Value × List UInt8)} (h : Fam w base N F) (o : Obj) : Fam (w.alloc o) base N F :=
  ⟨fun j hj p hp => (h.own j hj p hp).alloc o, h.apart⟩
theorem Fam.drewN {w : World} {base N : Nat} {F : Nat → List (Value × List UInt8)} (h : Fam w base N F) (n : Nat) : Fam (w.drewN n) base N F := ⟨h.own, h.apart⟩
theorem Fam.kept {w w' : World} {base N : Nat} {F : Nat → List (Value × List UInt8)} {row : Option Nat} (h : Fam w base N F) (hg : w.grownBy w' row) (hne : ∀ j, j < N → ∀ p ∈ F j, p.1.ownBlock = none ∨ p.1.ownBlock ≠ row) : Fam w' base N F :=
  ⟨fun j hj p hp => (h.own j hj p hp).kept hg (hne j hj p hp), h.apart⟩

theorem Fam.drew {w : World} {base N : Nat} {F : Nat → List (Value × List UInt8)} (h : Fam w base N F) : Fam w.drew base N F := ⟨h.own, h.apart⟩
theorem Fam.dup {w : World} {base N k : Nat} {p : Value × List UInt8} {F : Nat → List (Value × List UInt8)} (h : Fam w base N F) (hF : F k = [p]) : Fam w base N (fun j => if j = k then [p, p] else F j) := by
  have hm : ∀ j q, q ∈ (if j = k then [p, p] else F j) → q ∈ F j := by
    intro j q hq
    by_cases hj : j = k
    · subst hj; simp at hq; subst hq; rw [hF]; simp
    · simpa [hj] using hq
  exact ⟨fun j hj q hq => h.own j hj q (hm j q hq), fun i j hi hj hne q hq r hr => h.apart i j hi hj hne q (hm i q hq) r (hm j r hr)⟩
theorem rows_ne {w : World} {b b' : Nat} {e e' : TypeId} {v u : Value} {n m : Nat} {xs ys : List Value} (h : w.ownsRow b e 1 v n xs) (h' : w.ownsRow b' e' 1 u m ys) (hne : e ≠ e') : v.ownBlock = none ∨ v.ownBlock ≠ u.ownBlock := by
  rcases h.2 with ⟨rfl, _⟩ | ⟨g, cap, cur, rfl, _, hg, _⟩
  · exact .inl rfl
  rcases h'.2 with ⟨rfl, _⟩ | ⟨g', cap', cur', rfl, _, hg', _⟩
  · exact .inr (by simp [Value.ownBlock])
  · refine .inr (fun e => ?_)
    have : g = g' := by simpa [Value.ownBlock] using e
    subst this
    rw [hg] at hg'
    injection hg' with hg'
    injection hg' with _ h2
    exact hne h2

/-- A store into the only slice of index k. -/
theorem Fam.store {w : World} {base N k g n c : Nat} {l : List UInt8} {F : Nat → List (Value × List UInt8)} (h : Fam w base N F) (hk : k < N) (hF : F k = [(.slice (some ⟨g, 0, none⟩) n c, l)]) (i : Nat) (b : UInt8) :
    Fam (w.setCell ⟨g, i, none⟩ (.int .u8 (b.toNat : Int))) base N (fun j => if j = k then [(.slice (some ⟨g, 0, none⟩) n c, l.set i b)] else F j) := by
  have hmem : ((.slice (some ⟨g, 0, none⟩) n c, l) : Value × List UInt8) ∈ F k := by rw [hF]; simp
  have ho : OwnB w base (.slice (some ⟨g, 0, none⟩) n c) l := h.own k hk _ hmem
  obtain ⟨h1, h2⟩ := ho.stored i b
  refine ⟨fun j hj p hp => ?_, fun i' j hi hj hne p hp q hq => ?_⟩
  · by_cases hjk : j = k
    · simp only [hjk, if_true, List.mem_singleton] at hp
      subst hp
      exact h1
    · simp only [hjk, if_false] at hp
      exact (h.own j hj p hp).kept h2 (h.apart j k hj hk hjk p hp _ hmem)
  · by_cases hik : i' = k
    · have hjk : j ≠ k := fun e => hne (hik.trans e.symm)
      simp only [hik, if_true, List.mem_singleton] at hp
      simp only [hjk, if_false] at hq
      subst hp
      exact h.apart k j hk hj (fun e => hjk e.symm) _ hmem q hq
    · simp only [hik, if_false] at hp
      by_cases hjk : j = k
      · simp only [hjk, if_true, List.mem_singleton] at hq
        subst hq
        exact h.apart i' k hi hk hik p hp (_, l) hmem
      · simp only [hjk, if_false] at hq
        exact h.apart i' j hi hj hne p hp q hq

/-- An append onto one of the slices of index k: a second one of that index, no longer than it, stays. -/
theorem Fam.append {w w' : World} {base N k n m : Nat} {v v' v0 : Value} {l0 l l' : List UInt8} {F : Nat → List (Value × List UInt8)} (h : Fam w base N F) (hk : k < N) (hF : F k = [(v0, l0), (v, l)])
    (hl0 : l0.length ≤ l.length) (hpre : l0 = l.take l0.length) (hpre' : l = l'.take l.length) (hown : OwnB w' base v' l')
    (hcase : (∃ g cap, v = .slice (some ⟨g, 0, none⟩) n cap ∧ v' = .slice (some ⟨g, 0, none⟩) (n + m) cap ∧ w.grownBy w' (some g)) ∨ (v'.ownBlock = some w.heap.size ∧ Below w.heap.size w w')) :
    Fam w' base N (fun j => if j = k then [(v0, l0), (v', l')] else F j) := by
  have ho0 : OwnB w base v0 l0 := h.own k hk (v0, l0) (by rw [hF]; simp)
  have ho1 : OwnB w base v l := h.own k hk (v, l) (by rw [hF]; simp)
  have hlt : ∀ j, j < N → ∀ p ∈ F j, p.1.ownBlock ≠ some w.heap.size := fun j hj p hp e => by
    have := ((h.own j hj p hp).lt _ e).2
    omega
  have hblk : v'.ownBlock = v.ownBlock ∨ v'.ownBlock = some w.heap.size := by
    rcases hcase with ⟨g, cap, rfl, rfl, _⟩ | ⟨h1, _⟩
    · exact .inl rfl
    · exact .inr h1
  have hold : ∀ j, j < N → j ≠ k → ∀ p ∈ F j, OwnB w' base p.1 p.2 := by
    intro j hj hjk p hp
    rcases hcase with ⟨g, cap, rfl, rfl, hg⟩ | ⟨_, hb⟩
    · exact (h.own j hj p hp).kept hg (h.apart j k hj hk hjk p hp (.slice (some ⟨g, 0, none⟩) n cap, l) (by rw [hF]; simp))
    · exact (h.own j hj p hp).below hb
  have h0' : OwnB w' base v0 l0 := by
    rcases hcase with ⟨g, cap, hv, hv', hg⟩ | ⟨_, hb⟩
    · by_cases hb0 : v0.ownBlock = some g
      · refine OwnB.same_block (b := g) ho0 hown ?_ hb0 (by rw [hv']; rfl) ?_ ?_
        · intro e
          have := (ho0.lt g hb0).2
          rw [Array.getElem?_eq_none_iff] at e
          omega
        · intro n0 n1 c0 c1 e0 e1
          subst hv
          rw [hv'] at e1
          rcases ho0.2 with ⟨h', _⟩ | ⟨g0, cap0, cur0, h', _, hgg0, _, _, hs0, _⟩
          · rw [h'] at hb0; simp [Value.ownBlock] at hb0
          rcases ho1.2 with ⟨h1', _⟩ | ⟨g1, cap1, cur1, h1', _, hgg1, _, _, hs1, _⟩
          · cases h1'
          injection h1' with e2 e3 e4
          injection e2 with e2
          injection e2 with e2
          rw [e0] at h'
          injection h' with f2 f3 f4
          injection f2 with f2
          injection f2 with f2
          injection e1 with _ _ e5
          subst e2 f2
          rw [hgg0] at hgg1
          injection hgg1 with hgg1
          injection hgg1 with hgg1
          subst hgg1
          omega
        · rw [hpre]
          have e : l.take l0.length = (l'.take l.length).take l0.length := by rw [← hpre']
          rw [List.length_take, Nat.min_eq_left hl0, e, List.take_take, Nat.min_eq_left hl0]
      · exact ho0.kept hg (.inr hb0)
    · exact ho0.below hb
  refine ⟨fun j hj p hp => ?_, fun i j hi hj hne p hp q hq => ?_⟩
  · by_cases hjk : j = k
    · simp only [hjk, if_true, List.mem_cons, List.not_mem_nil, or_false] at hp
      rcases hp with rfl | rfl
      · exact h0'
      · exact hown
    · simp only [hjk, if_false] at hp
      exact hold j hj hjk p hp
  · by_cases hik : i = k
    · have hjk : j ≠ k := fun e => hne (hik.trans e.symm)
      simp only [hik, if_true, List.mem_cons, List.not_mem_nil, or_false] at hp
      simp only [hjk, if_false] at hq
      rcases hp with rfl | rfl
      · exact h.apart k j hk hj (fun e => hjk e.symm) (v0, l0) (by rw [hF]; simp) q hq
      · rcases hblk with e | e
        · simp only [e]
          exact h.apart k j hk hj (fun e => hjk e.symm) (v, l) (by rw [hF]; simp) q hq
        · simp only [e]
          exact .inr (fun e' => hlt j hj q hq e'.symm)
    · simp only [hik, if_false] at hp
      by_cases hjk : j = k
      · simp only [hjk, if_true, List.mem_cons, List.not_mem_nil, or_false] at hq
        rcases hq with rfl | rfl
        · exact h.apart i k hi hk hik p hp (v0, l0) (by rw [hF]; simp)
        · rcases hblk with e | e
          · simp only [e]
            exact h.apart i k hi hk hik p hp (v, l) (by rw [hF]; simp)
          · simp only [e]
            exact .inr (hlt i hi p hp)
      · simp only [hjk, if_false] at hq
        exact h.apart i j hi hj hne p hp q hq

/-- A list of owned slices, no two on one block. -/
structure Hp (w : World) (base : Nat) (ps : List (Value × List UInt8)) : Prop where
  own : ∀ (i : Nat) p, ps[i]? = some p → OwnB w base p.1 p.2
  apart : ∀ (i j : Nat) p q, i ≠ j → ps[i]? = some p → ps[j]? = some q → p.1.ownBlock = none ∨ p.1.ownBlock ≠ q.1.ownBlock
theorem Hp.nil (w : World) (base : Nat) : Hp w base [] := ⟨fun i p h => by simp at h, fun i j p q _ h => by simp at h⟩
theorem Hp.below {w w' : World} {base : Nat} {ps : List (Value × List UInt8)} (h : Hp w base ps) (hb : Below w.heap.size w w') : Hp w' base ps := ⟨fun i p hp => (h.own i p hp).below hb, h.apart⟩
theorem Hp.push {w w' : World} {base : Nat} {ps : List (Value × List UInt8)} {v : Value} {l : List UInt8} (h : Hp w base ps) (hb : Below w.heap.size w w') (ho : OwnB w' w.heap.size v l) (hs : base ≤ w.heap.size) : Hp w' base (ps ++ [(v, l)]) := by
  have key : ∀ (i : Nat) p, (ps ++ [(v, l)])[i]? = some p → ps[i]? = some p ∨ (i = ps.length ∧ p = (v, l)) := by
    intro i p hp
    rcases Nat.lt_or_ge i ps.length with hi | hi
    · rw [List.getElem?_append_left hi] at hp; exact .inl hp
    · rw [List.getElem?_append_right hi] at hp
      have : i - ps.length = 0 := by
        rcases Nat.eq_zero_or_pos (i - ps.length) with h0 | h0
        · exact h0
        · rw [List.getElem?_eq_none (by simp; omega)] at hp; cases hp
      rw [this] at hp
      simp only [List.getElem?_cons_zero, Option.some.injEq] at hp
      exact .inr ⟨by omega, hp.symm⟩
  have hnew : ∀ (i : Nat) p, ps[i]? = some p → v.ownBlock = none ∨ v.ownBlock ≠ p.1.ownBlock := by
    intro i p hp
    cases hv : v.ownBlock with
    | none => exact .inl rfl
    | some g =>
      refine .inr (fun e => ?_)
      have h1 := (ho.lt g hv).1
      have h2 := ((h.own i p hp).lt g e.symm).2
      omega
  have hnew' : ∀ (i : Nat) p, ps[i]? = some p → p.1.ownBlock = none ∨ p.1.ownBlock ≠ v.ownBlock := by
    intro i p hp
    cases hv : p.1.ownBlock with
    | none => exact .inl rfl
    | some g =>
      refine .inr (fun e => ?_)
      have h1 := (ho.lt g e.symm).1
      have h2 := ((h.own i p hp).lt g hv).2
      omega
  refine ⟨fun i p hp => ?_, fun i j p q hij hp hq => ?_⟩
  · rcases key i p hp with h1 | ⟨_, rfl⟩
    · exact (h.own i p h1).below hb
    · exact ho.more hs
  · rcases key i p hp with h1 | ⟨e1, rfl⟩
    · rcases key j q hq with h2 | ⟨e2, rfl⟩
      · exact h.apart i j p q hij h1 h2
      · exact hnew' i p h1
    · rcases key j q hq with h2 | ⟨e2, rfl⟩
      · exact hnew j q h2
      · exact absurd (e1.trans e2.symm) hij
theorem Hp.over {w w' : World} {base g i : Nat} {ps : List (Value × List UInt8)} {v : Value} {l l' : List UInt8} (h : Hp w base ps) (hi : ps[i]? = some (v, l)) (hv : v.ownBlock = some g) (hg : w.grownBy w' (some g)) (ho : OwnB w' base v l') : Hp w' base (ps.set i (v, l')) := by
  have hlt : i < ps.length := (List.getElem?_eq_some_iff.1 hi).1
  have key : ∀ (j : Nat) p, (ps.set i (v, l'))[j]? = some p → (j ≠ i ∧ ps[j]? = some p) ∨ (j = i ∧ p = (v, l')) := by
    intro j p hp
    by_cases hj : j = i
    · subst hj; rw [List.getElem?_set_self hlt] at hp; injection hp with hp; exact .inr ⟨rfl, hp.symm⟩
    · rw [List.getElem?_set_ne (fun e => hj e.symm)] at hp; exact .inl ⟨hj, hp⟩
  refine ⟨fun j p hp => ?_, fun j k p q hjk hp hq => ?_⟩
  · rcases key j p hp with ⟨hne, h1⟩ | ⟨_, rfl⟩
    · exact (h.own j p h1).kept hg (by have := h.apart j i p _ hne h1 hi; rwa [hv] at this)
    · exact ho
  · rcases key j p hp with ⟨h1, h2⟩ | ⟨rfl, rfl⟩
    · rcases key k q hq with ⟨h3, h4⟩ | ⟨rfl, rfl⟩
      · exact h.apart j k p q hjk h2 h4
      · exact h.apart j k p (v, l) hjk h2 hi
    · rcases key k q hq with ⟨h3, h4⟩ | ⟨e, _⟩
      · exact h.apart j k (v, l) q hjk hi h4
      · exact absurd e.symm hjk
/-- Some of them. -/
theorem Hp.sel {w : World} {base : Nat} {ps qs : List (Value × List UInt8)} (h : Hp w base ps) (is : List Nat) (hn : is.Nodup) (hq : qs.map some = is.map fun i => ps[i]?) : Hp w base qs := by
  have key : ∀ (j : Nat) p, qs[j]? = some p → ∃ i, is[j]? = some i ∧ ps[i]? = some p := by
    intro j p hp
    have h1 : (qs.map some)[j]? = some (some p) := by rw [List.getElem?_map, hp]; rfl
    rw [hq, List.getElem?_map] at h1
    cases hi : is[j]? with
    | none => rw [hi] at h1; cases h1
    | some i => rw [hi] at h1; injection h1 with h1; exact ⟨i, rfl, h1⟩
  refine ⟨fun j p hp => ?_, fun j k p q hjk hp hq' => ?_⟩
  · obtain ⟨i, _, h1⟩ := key j p hp
    exact h.own i p h1
  · obtain ⟨i, hi, h1⟩ := key j p hp
    obtain ⟨i', hi', h2⟩ := key k q hq'
    refine h.apart i i' p q (fun e => hjk ?_) h1 h2
    subst e
    exact (List.getElem?_inj (List.getElem?_eq_some_iff.1 hi).1 hn).1 (hi.trans hi'.symm)

/-- The state of a call: what was there when it began is as it was; its own slices of bytes. -/
structure OSt (w0 w : World) (ps : List (Value × List UInt8)) : Prop where
  low : Below w0.heap.size w0 w
  hp : Hp w w0.heap.size ps
theorem OSt.start (w : World) : OSt w w [] := ⟨Below.refl _ _, Hp.nil _ _⟩
section
variable {w0 w w' : World} {ps : List (Value × List UInt8)}
theorem OSt.call (h : OSt w0 w ps) (hb : Below w.heap.size w w') : OSt w0 w' ps := ⟨h.low.trans (hb.mono h.low.size), h.hp.below hb⟩
theorem OSt.name (h : OSt w0 w ps) : ∃ qs, qs = ps ∧ OSt w0 w qs := ⟨ps, rfl, h⟩
theorem OSt.drewN (h : OSt w0 w ps) (n : Nat) : OSt w0 (w.drewN n) ps := h.call (bdrewN (Below.refl _ _) n)
theorem OSt.drew (h : OSt w0 w ps) : OSt w0 w.drew ps := h.call (Below.refl _ _).drew
theorem OSt.push {v : Value} {l : List UInt8} (h : OSt w0 w ps) (ho : OwnB w' w.heap.size v l) (hb : Below w.heap.size w w') : OSt w0 w' (ps ++ [(v, l)]) := ⟨h.low.trans (hb.mono h.low.size), h.hp.push hb ho h.low.size⟩
theorem OSt.arg {size n : Nat} {A : Option Addr} {xs : List Value} (h : OSt w0 w ps) (hr : Rd w0 size A n xs) : Rd w size A n xs := hr.below h.low
theorem OSt.get {v : Value} {l : List UInt8} (h : OSt w0 w ps) (i : Nat) (hi : ps[i]? = some (v, l)) : OwnB w w0.heap.size v l := h.hp.own i _ hi
theorem OSt.rd {A : Option Addr} {n c : Nat} {l : List UInt8} (h : OSt w0 w ps) (i : Nat) (hi : ps[i]? = some (.slice A n c, l)) : Rd w 1 A n (l.map vb) := by
  have ho := h.get i hi
  have hn := ho.len_eq
  subst hn
  exact Rd.of_own ho
theorem OSt.pre {g N c n : Nat} {l m : List UInt8} (h : OSt w0 w ps) (i : Nat) (hi : ps[i]? = some (.slice (some ⟨g, 0, none⟩) N c, l ++ m)) (hn : l.length = n) : Rd w 1 (some ⟨g, 0, none⟩) n (l.map vb) := by
  subst hn
  exact Rd.of_own (h.get i hi).front
theorem OSt.overs {g n c N : Nat} {l : List UInt8} {w2 : World} (h : OSt w0 w ps) (i : Nat) (hi : ps[i]? = some (.slice (some ⟨g, 0, none⟩) n c, l)) (ho : OwnB w2 w0.heap.size (.slice (some ⟨g, 0, none⟩) n c) (marksB 9 0 N)) (hg : w.grownBy w2 (some g)) : OSt w0 w2 (ps.set i (.slice (some ⟨g, 0, none⟩) n c, marksB 9 0 N)) := by
  have ho1 := h.get i hi
  exact ⟨h.low.grown hg h.low.size (fun k e => by injection e with e; subst e; exact (ho1.lt _ rfl).1), h.hp.over hi rfl hg ho⟩
theorem OSt.over {v : Value} {l l' : List UInt8} {g : Nat} (h : OSt w0 w ps) (i : Nat) (hi : ps[i]? = some (v, l)) (hv : v.ownBlock = some g) (hg : w.grownBy w' (some g)) (ho : OwnB w' w0.heap.size v l') : OSt w0 w' (ps.set i (v, l')) :=
  ⟨h.low.grown hg h.low.size (fun k e => by injection e with e; subst e; exact ((h.get i hi).lt _ hv).1), h.hp.over hi hv hg ho⟩
end
end Go.Proofs.YtenmlkgamlafpaaDoor
