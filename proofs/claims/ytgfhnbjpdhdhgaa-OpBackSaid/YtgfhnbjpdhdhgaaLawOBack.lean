/- The law OpBack, walked. -/
import Derived.Test.YtgfhnbjpdhdhgaaRowOs
import Derived.Test.YtgfhnbjpdhdhgaaOpB
import Derived.Test.YtgfhnbjpdhdhgaaOpL
import Derived.Test.YtgfhnbjpdhdhgaaOpS
import Derived.Test.YtgfhnbjpdhdhgaaOpD
import Derived.Test.YtgfhnbjpdhdhgaaPlain
import Derived.Test.YtgfhnbjpdhdhgaaKitO
import Derived.Test.YtgfhnbjpdhdhgaaHeld2
import Derived.Test.YtgfhnbjpdhdhgaaOpNW
import Derived.Test.YtgfhnbjpdhdhgaaPick
import Derived.Deep.DeepAppendWide
namespace Go.Proofs.Ytgfhnbjpdhdhgaa
open Go.RowKit
set_option linter.unusedVariables false

def encOf (x : OpR) : List UInt8 := encB x.k x.h x.a x.c x.o x.xs x.ys
def allB (l : List OpR) (k : Nat) : List UInt8 := (l.take k).flatMap encOf
def endsV (l : List OpR) (k : Nat) : List Value := (List.range k).map fun i => Value.int .i64 ((allB l (i + 1)).length : Int)
theorem allB_succ {l : List OpR} {k : Nat} {x : OpR} (h : l[k]? = some x) : allB l (k + 1) = allB l k ++ encOf x := by
  unfold allB; rw [List.take_add_one, h]; simp
theorem encOf_length (x : OpR) : (encOf x).length = 32 + x.xs.length + x.ys.length := encB_length _ _ _ _ _ _ _
theorem endsV_succ (l : List OpR) (k : Nat) : endsV l (k + 1) = endsV l k ++ [.int .i64 ((allB l (k + 1)).length : Int)] := by
  unfold endsV; rw [List.range_succ, List.map_append]; rfl
theorem allB_le {l : List OpR} (hs : ∀ (k : Nat) (x : OpR), l[k]? = some x → x.xs.length + x.ys.length ≤ 4000) : ∀ k, (allB l k).length ≤ k * 4032 := by
  intro k
  induction k with
  | zero => have e : (allB l 0).length = 0 := by unfold allB; rw [List.take_zero, List.flatMap_nil, List.length_nil]
            omega
  | succ k ih =>
    cases h : l[k]? with
    | none =>
      have : allB l (k + 1) = allB l k := by unfold allB; rw [List.take_add_one, h]; simp
      have e := congrArg List.length this
      omega
    | some x =>
      have e2 := congrArg List.length (allB_succ h)
      rw [List.length_append, encOf_length] at e2
      have := hs k x h
      omega
theorem allB_drop {l : List OpR} {k : Nat} {x : OpR} (h : l[k]? = some x) (rest : List UInt8) :
    (allB l l.length ++ rest).drop (allB l k).length = encOf x ++ ((l.drop (k + 1)).flatMap encOf ++ rest) := by
  have hk : k < l.length := (List.getElem?_eq_some_iff.1 h).1
  have e : allB l l.length = allB l k ++ (encOf x ++ (l.drop (k + 1)).flatMap encOf) := by
    have e1 : l.flatMap encOf = (l.take k ++ l.drop k).flatMap encOf := by rw [List.take_append_drop]
    have e2 : l.drop k = x :: l.drop (k + 1) := by rw [List.drop_eq_getElem_cons hk, (List.getElem?_eq_some_iff.1 h).2]
    unfold allB
    rw [List.take_of_length_le (Nat.le_refl _), e1, List.flatMap_append, e2, List.flatMap_cons]
  rw [e, List.append_assoc, List.append_assoc, List.drop_left]
  try rw [List.append_assoc]

section
variable {P : Program} (w : World)
theorem run_append_wideB (base : Nat) (t ty e : TypeId) (i : TypeInfo) (z : Value) (size bytes : Nat) (ht : P.underlying t = some (.slice e)) (hi : P.info? e = some i) (hz : i.zero = some z)
    (hsize : i.size = size) (hby : i.bytes = bytes) (hzs : z.cells.size = size) (hsz : 0 < size)
    (v : Value) (n : Nat) (xs : List Value) (hown : w.ownsRow base e size v n xs)
    (A : Option Addr) (m c : Nat) (news : List Value) (hr : Rd w size A m news) (h1 : ∀ u ∈ news, u.oneCell' = true)
    (h63 : n + m ≤ maxLen) (hbytes : ((n + m) + (n + m) / 4 + 192) * bytes ≤ 281474976710656) (hbase : base ≤ w.heap.size) :
    ∃ v' w', (Builtin.append_ #[t, t] ty #[v, .slice A m c]).run P w = .ok v' w' ∧ w'.ownsRow base e size v' (n + m) (xs ++ news) ∧ w.grownBy w' v.ownBlock := by
  rcases A with _ | ad
  · have hm : m = 0 := by
      rcases Nat.eq_zero_or_pos m with h0 | h0
      · exact h0
      · obtain ⟨ad, h, _⟩ := hr.2 h0
        cases h
    subst hm
    have hn : news = [] := List.eq_nil_of_length_eq_zero (by simpa using hr.1)
    subst hn
    exact ⟨v, w, run_append_of_nil w base t ty e i size ht hi v n xs hown c, by simpa using hown, World.grownBy.refl w _⟩
  · have hcells : ∀ j u, news[j]? = some u → w.cell? (ad.add j) = some u := by
      intro j u hu
      rcases Nat.eq_zero_or_pos m with h0 | h0
      · subst h0
        have hn : news = [] := List.eq_nil_of_length_eq_zero (by simpa using hr.1)
        subst hn
        simp at hu
      · obtain ⟨ad', h, _, hc⟩ := hr.2 h0
        injection h with h
        subst h
        exact hc j u hu
    obtain ⟨v', w', hrun, h2, h3, _⟩ := run_append_own_wide (P := P) w base t ty e i z size bytes ht hi hz hsize hby hzs hsz v n xs hown ad m c news hr.1 hcells h1 h63 hbytes hbase
    exact ⟨v', w', hrun, h2, h3⟩
theorem wpList_append_wideB {ops : Array Oper} {rest : List Oper} {o : Oper} {a : Act} {Q : Exit → Act → World → Prop} (hgd : o.guard = none) (s x : Operand) (t : TypeId)
    (ho : o.op = .call { callee := .builtin .append, args := #[s, x], argTypes := #[t, t] })
    (base : Nat) (e : TypeId) (i : TypeInfo) (z : Value) (size bytes : Nat) (ht : P.underlying t = some (.slice e)) (hi : P.info? e = some i) (hz : i.zero = some z)
    (hsize : i.size = size) (hby : i.bytes = bytes) (hzs : z.cells.size = size) (hsz : 0 < size)
    (v : Value) (n : Nat) (xs : List Value) (hs : a.eval s = v) (hown : w.ownsRow base e size v n xs)
    (A : Option Addr) (m c : Nat) (news : List Value) (hx : a.eval x = .slice A m c) (hr : Rd w size A m news) (h1 : ∀ u ∈ news, u.oneCell' = true)
    (h63 : n + m ≤ maxLen) (hbytes : ((n + m) + (n + m) / 4 + 192) * bytes ≤ 281474976710656) (hbase : base ≤ w.heap.size)
    (h : ∀ v' w', w'.ownsRow base e size v' (n + m) (xs ++ news) → w.grownBy w' v.ownBlock → wpList P ops Q rest (a.put o.dst v') w') : wpList P ops Q (o :: rest) a w :=
  wpList_plain hgd fun _ hK => by
    obtain ⟨v', w', hr, h2, h3⟩ := run_append_wideB (P := P) w base t o.type e i z size bytes ht hi hz hsize hby hzs hsz v n xs hown A m c news hr h1 h63 hbytes hbase
    unfold Oper.wp execOp
    simp only [ho, resolve, invoke, builtin, Sem.run_bind, Sem.run_pure, Result.andThen_ok, List.map_toArray, List.map_cons, List.map_nil, hs, hx, hr]
    exact hK _ _ (h v' w' h2 h3)
end
theorem op_cellsB {w : World} {A : Option Addr} {n k : Nat} {l : List OpR} {x : OpR} (h : Rd w 7 A n (opsV l)) (hx : l[k]? = some x) : ∃ p o, A = some ⟨p, o, none⟩ ∧ w.cell? ⟨p, o + k * 7, none⟩ = some (.int .u8 (x.k.toNat : Int)) ∧
    w.cell? ⟨p, o + k * 7 + 1, none⟩ = some (.int .i64 x.h) ∧ w.cell? ⟨p, o + k * 7 + 2, none⟩ = some (.int .u8 (x.a.toNat : Int)) ∧ w.cell? ⟨p, o + k * 7 + 3, none⟩ = some (.int .i64 x.c) ∧
    w.cell? ⟨p, o + k * 7 + 4, none⟩ = some (.int .i64 x.o) ∧ w.cell? ⟨p, o + k * 7 + 5, none⟩ = some (.slice x.A x.n x.cA) ∧ w.cell? ⟨p, o + k * 7 + 6, none⟩ = some (.slice x.B x.m x.cB) ∧ p < w.heap.size := by
  obtain ⟨p, o, rfl, hr⟩ := op_cells h hx
  have h0 := hr 0 _ rfl
  refine ⟨p, o, rfl, h0, hr 1 _ rfl, hr 2 _ rfl, hr 3 _ rfl, hr 4 _ rfl, hr 5 _ rfl, hr 6 _ rfl, ?_⟩
  exact World.block_lt_of_cell? w _ h0
theorem op_cellsAt {w : World} {p o : Nat} {n k : Nat} {l : List OpR} {x : OpR} (h : Rd w 7 (some ⟨p, o, none⟩) n (opsV l)) (hx : l[k]? = some x) : w.cell? ⟨p, o + k * 7, none⟩ = some (.int .u8 (x.k.toNat : Int)) ∧
    w.cell? ⟨p, o + k * 7 + 1, none⟩ = some (.int .i64 x.h) ∧ w.cell? ⟨p, o + k * 7 + 2, none⟩ = some (.int .u8 (x.a.toNat : Int)) ∧ w.cell? ⟨p, o + k * 7 + 3, none⟩ = some (.int .i64 x.c) ∧
    w.cell? ⟨p, o + k * 7 + 4, none⟩ = some (.int .i64 x.o) ∧ w.cell? ⟨p, o + k * 7 + 5, none⟩ = some (.slice x.A x.n x.cA) ∧ w.cell? ⟨p, o + k * 7 + 6, none⟩ = some (.slice x.B x.m x.cB) ∧ p < w.heap.size := by
  obtain ⟨p', o', e, h'⟩ := op_cellsB h hx
  injection e with e
  injection e with e1 e2
  subst e1 e2
  exact h'
theorem St.rdBlk1 {w0 w : World} {F0 : List Nat} {E : Env} {g : Nat} {T : TypeId} {cs : List Value} (H : St w0 F0 w E) (k : Nat) (hk : E k = some (.blk g T cs)) (size n : Nat) (hl : cs.length = n * size) : Rd w size (some ⟨g, 0, none⟩) n cs :=
  ⟨hl, fun _ => ⟨_, rfl, H.lt k hk, fun j u hu => by rw [Addr.add_mid, Nat.zero_add]; exact H.cell k hk hu⟩⟩
theorem endsV_get {l : List OpR} {n j : Nat} (h : j < n) : (endsV l n)[j]? = some (.int .i64 ((allB l (j + 1)).length : Int)) := by
  simp [endsV, h]
theorem decR_cut {l : List UInt8} (h : nextR l = noNext) : decR l = noNext := (decR_of l).2 (.inl (by rw [h]; decide))
theorem allB_mono (l : List OpR) (a b : Nat) (h : a ≤ b) : (allB l a).length ≤ (allB l b).length := by
  obtain ⟨d, rfl⟩ := Nat.exists_eq_add_of_le h
  clear h
  induction d with
  | zero => exact Nat.le_refl _
  | succ d ih =>
    refine Nat.le_trans ih ?_
    cases h : l[a + d]? with
    | none =>
      have e : allB l (a + d + 1) = allB l (a + d) := by unfold allB; rw [List.take_add_one, h]; simp
      rw [← Nat.add_assoc, e]; exact Nat.le_refl _
    | some x => rw [← Nat.add_assoc, allB_succ h, List.length_append]; omega
theorem St.rowCell {w0 w : World} {F0 : List Nat} {E : Env} {e : TypeId} {g n c j : Nat} {xs : List Value} {u : Value} (H : St w0 F0 w E) (k : Nat) (hk : E k = some (.row e 1 (.slice (some ⟨g, 0, none⟩) n c) n xs)) (hu : xs[j]? = some u) : w.cell? ⟨g, j, none⟩ = some u := by
  have hr := H.rd k hk
  have hl : j < xs.length := (List.getElem?_eq_some_iff.1 hu).1
  obtain ⟨ad, h, -, hc⟩ := hr.2 (by have := hr.1; omega)
  injection h with h
  subst h
  have := hc j u hu
  rwa [Addr.add_mid, Nat.zero_add] at this
theorem op_range {w : World} {p o n k : Nat} {l : List OpR} {x : OpR} (h : Rd w 7 (some ⟨p, o, none⟩) n (opsV l)) (hx : l[k]? = some x) : w.rangeAt p (o + k * 7) x.cs := by
  obtain ⟨p', o', e, hr⟩ := op_cells h hx
  injection e with e
  injection e with e1 e2
  subst e1 e2
  exact hr
theorem pI_idem (c : Nat) (us : List Nat) (h : Int) : pI c us (pI c us h) = pI c us h := by unfold pI; split <;> rfl
theorem pA_idem (us : List Nat) (a : UInt8) : pA us (pA us a) = pA us a := by unfold pA; split <;> rfl
theorem pL_idem (c : Nat) (us : List Nat) (l : List UInt8) : pL c us (pL c us l) = pL c us l := by unfold pL; split <;> rfl
theorem pL_le (c : Nat) (us : List Nat) (l : List UInt8) : (pL c us l).length ≤ l.length := by unfold pL; split <;> simp
theorem next_no (A : Option Addr) (n c : Nat) (l : List UInt8) (w : World) (hR : Rd w 1 A n (l.map vb)) (hc : n ≤ c) (hn : n ≤ 281474976710656) (h0 : nextR l = noNext) :
    Calls Try.prog 22 #[.slice A n c] w fun e w' => ∃ A5 n5 c5 A6 n6 c6, e = .returned (.tuple #[.agg #[.int .u8 0, .int .i64 0, .int .u8 0, .int .i64 0, .int .i64 0, .slice A5 n5 c5, .slice A6 n6 c6], .int .i64 0, .int .i64 300]) ∧ Below w.heap.size w w' := by
  refine (next_w A n c l w hR hc hn).mono ?_
  rintro e w' ⟨v5, v6, rfl, HN⟩
  rw [h0] at HN ⊢
  obtain ⟨A5, c5, rfl, -⟩ := row_form (HN.row 0 rfl)
  obtain ⟨A6, c6, rfl, -⟩ := row_form (HN.row 1 rfl)
  exact ⟨A5, _, c5, A6, _, c6, rfl, HN.below⟩
theorem decode_no (A : Option Addr) (n c : Nat) (l : List UInt8) (w : World) (hR : Rd w 1 A n (l.map vb)) (hc : n ≤ c) (hn : n ≤ 140737488351232) (h0 : decR l = noNext) :
    Calls Try.prog 21 #[.slice A n c] w fun e w' => ∃ A5 n5 c5 A6 n6 c6, e = .returned (.tuple #[.agg #[.int .u8 0, .int .i64 0, .int .u8 0, .int .i64 0, .int .i64 0, .slice A5 n5 c5, .slice A6 n6 c6], .int .i64 300]) ∧ Below w.heap.size w w' := by
  refine (decode_s A n c l w hR hc hn).mono ?_
  rintro e w' ⟨v5, v6, rfl, HN⟩
  rw [h0] at HN ⊢
  obtain ⟨A5, c5, rfl, -⟩ := row_form (HN.row 0 rfl)
  obtain ⟨A6, c6, rfl, -⟩ := row_form (HN.row 1 rfl)
  exact ⟨A5, _, c5, A6, _, c6, rfl, HN.below⟩
/-- an operation is told, its lists new memory -/
def TellP (k : UInt8) (h : Int) (a : UInt8) (c o : Int) (xs ys : List UInt8) (w : World) (e : Ending) (w' : World) : Prop :=
  ∃ v5 v6, e = .returned (opV k h a c o v5 v6) ∧ St w [] w' (lay [.row 5 1 v5 xs.length (xs.map vb), .row 5 1 v6 ys.length (ys.map vb)])
/-- what is plain stays plain -/
theorem plain_twice (k : UInt8) (h : Int) (a : UInt8) (cn ou : Int) (xs ys : List UInt8) : ∃ ph pa pc po px py, px.length ≤ xs.length ∧ py.length ≤ ys.length ∧
    (∀ A B n m c d w, Rd w 1 A n (xs.map vb) → Rd w 1 B m (ys.map vb) → n ≤ 4000 → m ≤ 4000 → Calls Try.prog 47 #[opV k h a cn ou (.slice A n c) (.slice B m d)] w (TellP k ph pa pc po px py w)) ∧
    (∀ A B n m c d w, Rd w 1 A n (px.map vb) → Rd w 1 B m (py.map vb) → n ≤ 4000 → m ≤ 4000 → Calls Try.prog 47 #[opV k ph pa pc po (.slice A n c) (.slice B m d)] w (TellP k ph pa pc po px py w)) := by
  refine ⟨pI 0 (usesOf k) h, pA (usesOf k) a, pI 2 (usesOf k) cn, pI 3 (usesOf k) ou, pL 4 (usesOf k) xs, pL 5 (usesOf k) ys, pL_le _ _ _, pL_le _ _ _, fun A B n m c d w hA hB hn hm => ?_, fun A B n m c d w hA hB hn hm => ?_⟩
  · exact (opPlain_s k h a cn ou A B n m c d xs ys w hA hB (by omega) (by omega)).mono fun _ _ h => h
  · refine (opPlain_s k (pI 0 (usesOf k) h) (pA (usesOf k) a) (pI 2 (usesOf k) cn) (pI 3 (usesOf k) ou) A B n m c d (pL 4 (usesOf k) xs) (pL 5 (usesOf k) ys) w hA hB (by omega) (by omega)).mono fun _ _ h => ?_
    unfold PlainP at h
    rw [pI_idem, pI_idem, pI_idem, pA_idem, pL_idem, pL_idem] at h
    exact h
theorem opSame_yes (k : UInt8) (h : Int) (a : UInt8) (cn ou : Int) (A B A' B' : Option Addr) (n m c d n' m' c' d' : Nat) (xs ys : List UInt8) (w : World) (hA : Rd w 1 A n (xs.map vb)) (hB : Rd w 1 B m (ys.map vb)) (hA' : Rd w 1 A' n' (xs.map vb)) (hB' : Rd w 1 B' m' (ys.map vb))
    (hn : n ≤ 9223372036854775807) (hm : m ≤ 9223372036854775807) (hn' : n' ≤ 9223372036854775807) (hm' : m' ≤ 9223372036854775807) :
    Calls Try.prog 39 #[opV k h a cn ou (.slice A n c) (.slice B m d), opV k h a cn ou (.slice A' n' c') (.slice B' m' d')] w fun e w' => e = .returned (.bool true) ∧ Below w.heap.size w w' :=
  (opSame_s k k h h a a cn cn ou ou A B A' B' n m c d n' m' c' d' xs ys xs ys w hA hB hA' hB' hn hm hn' hm').mono fun _ _ h => ⟨by rw [h.1]; simp, h.2⟩
theorem int_info : (Try.prog.info? 3).map (fun i => (i.zero, i.size, i.bytes)) = some (some (.int .i64 0), 1, 8) := by kernel_rfl
theorem OpR.Ok.le {w w' : World} {x : OpR} (h : OpR.Ok w x) : x.xs.length = x.n ∧ x.ys.length = x.m := ⟨by have := h.ra.1; simpa using this, by have := h.rb.1; simpa using this⟩

set_option maxRecDepth 100000 in
set_option maxHeartbeats 8000000 in
theorem opBack_walk (A0 : Option Addr) (n c0 : Nat) (l : List OpR) (B0 : Option Addr) (nr cr : Nat) (rest : List UInt8) (cut : Int) (w : World) (hR : Rd w 7 A0 n (opsV l)) (hn : n ≤ 1599289640354) (hok : ∀ s ∈ l, s.Ok w)
    (hS : Rd w 1 B0 nr (rest.map vb)) (hr : nr ≤ 140737488351232) (hc1 : -9223372036854775808 ≤ cut) (hc2 : cut ≤ 9223372036854775807) :
    Calls Try.prog 12 #[.slice A0 n c0, .slice B0 nr cr, .int .i64 cut] w fun e w' => e = .returned (.bool true) ∧ Below w.heap.size w w' := by
  obtain ⟨i0, hi0, hz0, hz1, hz2⟩ := info_parts u8_info
  obtain ⟨i1, hi1, hy0, hy1, hy2⟩ := info_parts int_info
  have hl : l.length = n := by have := hR.1; rw [opsV_length] at this; omega
  have HL := Lib.hid hl
  have HOK := Lib.hid hok
  clear hl hok
  have H := ((St.start_lay w []).nilRow 0 rfl 5 1).push_mk rfl |>.nilRow 1 rfl 3 1 |>.push_mk rfl
  go_enter Try.func12, Try.ntmps12
  go_wp2_with fail
  refine (lives_s w).mono ?_
  rintro e w1 ⟨rfl, hb1⟩
  replace H := H.call hb1
  clear hb1
  go_wp2
  go_loopw [7, 8, 9] (fun v u i wr => ∃ j : Nat, j ≤ n ∧ i = .int .i64 j ∧ Hid ((0 < j → n ≤ 20) ∧ ∀ k x, k < j → l[k]? = some x → x.xs.length + x.ys.length ≤ 4000) ∧ Hid ((allB l j).length ≤ j * 4032) ∧
    St w [] wr (lay [.row 5 1 v (allB l j).length ((allB l j).map vb), .row 3 1 u j (endsV l j)])) (fun _ _ i _ => n - (intOf i).toNat)
  case atStart => exact ⟨0, Nat.zero_le _, rfl, ⟨fun h => absurd h (by omega), fun k x h => absurd h (by omega)⟩, by simp [allB, Hid], H⟩
  case round =>
    clear H
    obtain ⟨j, hj, rfl, HSM, HLE, H⟩ := hrel
    by_cases hlt : j < n
    · obtain ⟨x, hx⟩ : ∃ r, l[j]? = some r := ⟨_, List.getElem?_eq_getElem (by rw [HL.out]; exact hlt)⟩
      have ok := HOK.out x (List.mem_of_getElem? hx)
      obtain ⟨p, o, rfl, a0, a1, a2, a3, a4, a5, a6, hlt2⟩ := op_cellsB (H.arg0 hR) hx
      obtain ⟨l1, l2⟩ := ok.le (w' := w)
      have HX := Lib.hid hx
      clear hx
      have hk1 : (j : Int) < n := by omega
      go_wp2
      by_cases hbig : 20 < n
      · have hd : (n : Int) > 20 := by omega
        go_quiet (fail)
        clear hd
        go_wp2
        go_ret
        exact ⟨rfl, (H.drewN _).below⟩
      · have hd : decide ((n : Int) > 20) = false := by simp; omega
        have hnw : IntKind.i64.wrap ((x.n : Int) + (x.m : Int)) = (x.n : Int) + (x.m : Int) := IntWalk.i64_in _ (by have := ok.ba; have := ok.bb; omega)
        by_cases hsm : 4000 < x.n + x.m
        · have hd2 : (x.n : Int) + (x.m : Int) > 4000 := by omega
          go_quiet (fail)
          clear hd hd2
          go_wp2
          go_ret
          exact ⟨rfl, (H.drewN _).below⟩
        · have hd2 : decide ((x.n : Int) + (x.m : Int) > 4000) = false := by simp; omega
          go_quiet (fail)
          clear hd hd2
          replace H := H.drewN nq
          refine absorb_post H ?_
          clear H a0 a1 a2 a3 a4 a5 a6 hlt2 hnw
          intro wr2 H
          obtain ⟨ra, rb, ba, bb, ih, ic, io⟩ := ok
          obtain ⟨a0, a1, a2, a3, a4, a5, a6, hlt2⟩ := op_cellsAt (H.arg0 hR) HX.out
          go_wp2_with fail
          refine (encode_s x.k x.h x.a x.c x.o x.A x.n x.cA x.B x.m x.cB x.xs x.ys wr2 (H.arg0 ra) (H.arg0 rb) (by omega) (by omega)).mono ?_
          rintro e w2 ⟨v, rfl, ho, hb⟩
          replace H := (H.pushOwnB 2 rfl ho hb).push_mk rfl
          have el : (encB x.k x.h x.a x.c x.o x.xs x.ys).length = 32 + x.n + x.m := by rw [encB_length, l1, l2]
          replace H := H.shape_row 2 rfl el rfl
          obtain ⟨AE, cE, rfl, -⟩ := row_form (H.row 2 rfl)
          clear ho hb a0 a1 a2 a3 a4 a5 a6 el
          obtain ⟨a0, a1, a2, a3, a4, a5, a6, hlt2⟩ := op_cellsAt (H.arg0 hR) HX.out
          have f1 : ((((32 + x.n + x.m : Nat) : Int)) != 32 + (x.n : Int) + (x.m : Int)) = false := by simp
          go_wp2
          go_quiet (fail)
          replace H := H.drewN nq
          refine absorb_post H ?_
          clear H f1 a0 a1 a2 a3 a4 a5 a6
          intro w3 H
          replace H : St w [] w3 (lay [.row 5 1 u7 (allB l j).length ((allB l j).map vb), .row 3 1 u8 j (endsV l j), .row 5 1 (.slice AE (32 + x.n + x.m) cE) (32 + x.n + x.m) ((encOf x).map vb)]) := H
          have hle2 := HLE.out
          have h20 : j * 4032 ≤ 80640 := by omega
          go_wp2_with (at_builtin; refine hold_here ?_)
          refine Held.go ?_
          refine wpList_append_any _ rfl (.tmp 83) (.tmp 84) _ rfl 0 5 i0 _ 1 1 Try.underlying25 hi0 hz0 hz1 hz2 rfl (by omega) u7 (allB l j).length ((allB l j).map vb) rfl (H.row 0 rfl) AE (32 + x.n + x.m) cE ((encOf x).map vb) rfl (H.rd 2 rfl) (vb_one _) (by simp only [maxLen]; omega) (by omega) (by omega) ?_
          intro v4 w4 hown4 hg4 hat4
          replace H := ((H.grow 0 rfl hown4 hg4 hat4).upd_mk (by simp))
          have el : (allB l j).length + (32 + x.n + x.m) = (allB l (j + 1)).length := by rw [allB_succ HX.out, List.length_append, encOf_length, l1, l2]
          have ex : (allB l j).map vb ++ (encOf x).map vb = (allB l (j + 1)).map vb := by rw [allB_succ HX.out, List.map_append]
          replace H := (H.shape_row 0 rfl el ex).front 2
          obtain ⟨A4, c4, rfl, -⟩ := row_form (H.row 0 rfl)
          clear hown4 hg4 hat4 ex
          replace H : St w [] w4 (lay [.row 5 1 (.slice A4 (allB l (j + 1)).length c4) (allB l (j + 1)).length ((allB l (j + 1)).map vb), .row 3 1 u8 j (endsV l j)]) := H
          have EL := Lib.hid el
          clear el
          go_wp2_with (at_builtin; refine hold_here ?_)
          refine Held.go ?_
          refine absorb_list (H.allocAt 2 rfl w4.heap.size rfl #[.int .i64 ((allB l (j + 1)).length : Int)] 3 |>.push_mk rfl) ?_
          clear H
          intro w5 H
          generalize w4.heap.size = gN at H ⊢
          replace H : St w [] w5 (lay [.row 5 1 (.slice A4 (allB l (j + 1)).length c4) (allB l (j + 1)).length ((allB l (j + 1)).map vb), .row 3 1 u8 j (endsV l j), .blk gN 3 [.int .i64 ((allB l (j + 1)).length : Int)]]) := H
          refine wpList_append_any _ rfl (.tmp 86) (.tmp 89) _ rfl 0 3 i1 _ 1 8 Try.underlying69 hi1 hy0 hy1 hy2 rfl (by omega) u8 j (endsV l j) rfl (H.row 1 rfl) (some ⟨gN, 0, none⟩) 1 1 [.int .i64 ((allB l (j + 1)).length : Int)] rfl (H.rdBlk1 2 rfl 1 1 rfl) (by intro u hu; simp at hu; subst hu; rfl) (by simp only [maxLen]; omega) (by omega) (by omega) ?_
          intro v6 w6 hown6 hg6 hat6
          replace H := ((H.grow 1 rfl hown6 hg6 hat6).upd_mk (by simp)).front 2
          rw [← endsV_succ] at H
          replace H : St w [] w6 (lay [.row 5 1 (.slice A4 (allB l (j + 1)).length c4) (allB l (j + 1)).length ((allB l (j + 1)).map vb), .row 3 1 v6 (j + 1) (endsV l (j + 1))]) := H
          have H1 : Hid ((0 < j + 1 → n ≤ 20) ∧ ∀ (k : Nat) (y : OpR), k < j + 1 → l[k]? = some y → y.xs.length + y.ys.length ≤ 4000) := by
            refine ⟨fun _ => by omega, fun k y hk hy => ?_⟩
            rcases Nat.lt_or_ge k j with h | h
            · exact HSM.out.2 k y h hy
            · obtain rfl : k = j := by omega
              have e := HX.out
              rw [e] at hy
              injection hy with hy
              subst hy
              omega
          have H2 : Hid ((allB l (j + 1)).length ≤ (j + 1) * 4032) := by unfold Hid; rw [← EL.out]; omega
          clear hown6 hg6 hat6
          go_wp2
          go_roundw
          case rel => exact ⟨j + 1, by omega, by go_num, H1, H2, H⟩
          case measure => simp [intOf]; omega
    · obtain rfl : n = j := by omega
      have hj1 : ¬ (n : Int) < n := by omega
      have hN : (allB l n).length ≤ 80640 := by
        have h1 := HLE.out
        rcases Nat.eq_zero_or_pos n with h | h
        · subst h; simp [allB]
        · have := HSM.out.1 h; omega
      obtain ⟨A7, c7, rfl, -⟩ := row_form (H.row 0 rfl)
      go_wp2_with fail
      refine (copyBytes_any A7 _ c7 (allB l n) wr (H.rd 0 rfl) (by omega)).mono ?_
      rintro e w2 ⟨v, rfl, ho, hb⟩
      have hS2 := (H.call hb).arg0 hS
      go_wp2_with (at_builtin; refine hold_here ?_)
      refine Held.go ?_
      refine wpList_append_wideB _ rfl (.tmp 92) (.tmp 93) _ rfl wr.heap.size 5 i0 _ 1 1 Try.underlying25 hi0 hz0 hz1 hz2 rfl (by omega) v (allB l n).length ((allB l n).map vb) rfl ho B0 nr cr (rest.map vb) rfl hS2 (vb_one _) (by simp only [maxLen]; omega) (by omega) hb.size ?_
      intro v5 w5 hown5 hg5
      have hb5 : Below wr.heap.size wr w5 := hb.grown hg5 hb.size (fun g hg => (World.ownsRow.lt ho _ hg).1)
      replace H := (H.pushRow 2 rfl hb5 hown5).push_mk rfl
      replace H := H.shape_row 2 rfl rfl (List.map_append (f := vb)).symm
      clear ho hb hown5 hg5 hb5 hS2 hj1
      obtain ⟨AW, cW, rfl, hcW, haW⟩ := row_form (H.row 2 rfl)
      obtain ⟨NW, hNW⟩ : ∃ NW, (allB l n).length + nr = NW := ⟨_, rfl⟩
      rw [hNW] at H hcW haW ⊢
      replace H : St w [] w5 (lay [.row 5 1 (.slice A7 (allB l n).length c7) (allB l n).length ((allB l n).map vb), .row 3 1 u8 n (endsV l n), .row 5 1 (.slice AW NW cW) NW ((allB l n ++ rest).map vb)]) := H
      replace H := H.pick (E' := lay [.row 3 1 u8 n (endsV l n), .row 5 1 (.slice AW NW cW) NW ((allB l n ++ rest).map vb)]) (fun i => i + 1) (fun i j h => by omega) (fun k A h => by simpa [lay] using h)
      have bNW : NW ≤ 140737488431872 := by omega
      have HNW := Lib.hid hNW
      have HAW := Lib.hid haW
      have HTL := HSM.out.2
      obtain ⟨A8, c8, rfl, -, ha8⟩ := row_form (H.row 0 rfl)
      have HA8 := Lib.hid ha8
      have HT := Lib.hid HTL
      clear hNW haW ha8 HTL HLE HSM
      -- the second loop
      go_wp2
      go_loopw [13, 14] (fun a i wr => ∃ j : Nat, j ≤ n ∧ i = .int .i64 j ∧ a = .int .i64 ((allB l j).length : Int) ∧ St w [] wr (lay [.row 3 1 (.slice A8 n c8) n (endsV l n), .row 5 1 (.slice AW NW cW) NW ((allB l n ++ rest).map vb)])) (fun _ i _ => n - (intOf i).toNat)
      case atStart => exact ⟨0, Nat.zero_le _, rfl, rfl, H⟩
      case round =>
        clear H
        obtain ⟨j, hj, rfl, rfl, H⟩ := hrel
        by_cases hlt : j < n
        · obtain ⟨x, hx⟩ : ∃ r, l[j]? = some r := ⟨_, List.getElem?_eq_getElem (by rw [HL.out]; exact hlt)⟩
          have ok := HOK.out x (List.mem_of_getElem? hx)
          have hsm := HT.out j x hlt hx
          obtain ⟨p, o, rfl, -⟩ := op_cellsB (H.arg0 hR) hx
          obtain ⟨l1, l2⟩ := ok.le (w' := w)
          have hd := allB_drop hx rest
          rw [HL.out] at hd
          have hq1 : (allB l (j + 1)).length = (allB l j).length + (32 + x.n + x.m) := by rw [allB_succ hx, List.length_append, encOf_length, l1, l2]
          have hq2 := allB_mono l (j + 1) n (by omega)
          have hq3 := HNW.out
          have hE := endsV_get (l := l) hlt
          rw [hq1] at hE hq2
          generalize (l.drop (j + 1)).flatMap encOf ++ rest = tl at hd
          obtain ⟨q, hq⟩ : ∃ q, (allB l j).length = q := ⟨_, rfl⟩
          rw [hq] at hd hq1 hq2 hE ⊢
          clear hq
          obtain ⟨gW, rfl, -⟩ := HAW.out (by omega)
          obtain ⟨gE, rfl, -⟩ := HA8.out (by omega)
          obtain ⟨kd, h, al, cn, ou, A, nA, cA, B, nB, cB, xs, ys⟩ := x
          obtain ⟨ra, rb, ba, bb, ih, ic, io⟩ := ok
          simp only at ra rb ba bb ih ic io hsm l1 l2 hq1 hq2 hE
          have hnx : nextR (encOf ⟨kd, h, al, cn, ou, A, nA, cA, B, nB, cB, xs, ys⟩ ++ tl) = ⟨kd, h, al, cn, ou, xs, ys, 32 + nA + nB, 0⟩ := by
            have := next_enc kd h al cn ou xs ys tl ih ic io (by omega) (by omega)
            rw [l1, l2] at this; exact this
          have hdx : decR (encOf ⟨kd, h, al, cn, ou, A, nA, cA, B, nB, cB, xs, ys⟩) = ⟨kd, h, al, cn, ou, xs, ys, 32 + nA + nB, 0⟩ := by
            have := dec_enc kd h al cn ou xs ys ih ic io (by omega) (by omega)
            rw [l1, l2] at this; exact this
          have hel : (encOf ⟨kd, h, al, cn, ou, A, nA, cA, B, nB, cB, xs, ys⟩).length = 32 + nA + nB := by rw [encOf_length]; simp only; rw [l1, l2]
          generalize encOf ⟨kd, h, al, cn, ou, A, nA, cA, B, nB, cB, xs, ys⟩ = en at hd hnx hdx hel
          obtain ⟨N, hN'⟩ : ∃ N, 32 + nA + nB = N := ⟨_, rfl⟩
          rw [hN'] at hq1 hq2 hE hnx hdx hel
          have hb1 : q + N ≤ NW := by omega
          have hb2 : 32 ≤ N := by omega
          have hb3 : N ≤ 4032 := by omega
          have hb4 : q ≤ 140737488431872 := by omega
          have hb5 : nA ≤ 4000 := by omega
          have hb6 : nB ≤ 4000 := by omega
          have hc1' : ¬ cW = q := by omega
          have hj1 : (j : Int) < n := by omega
          have f1 : ((q : Int) + (N : Int) != ((q + N : Nat) : Int)) = false := by simp
          have HX := Lib.hid hx
          have HE := Lib.hid hE
          have HD := Lib.hid hd
          have HNX := Lib.hid hnx
          have HDX := Lib.hid hdx
          have HEL := Lib.hid hel
          have HQ1 := Lib.hid hq1
          have L1 := Lib.hid l1
          have L2 := Lib.hid l2
          have hU := Try.underlying31
          clear hx hE hd hnx hdx hel hq1 hq2 hq3 l1 l2 hN' hsm ba bb ih ic io
          replace H : St w [] wr (lay [.row 3 1 (.slice (some ⟨gE, 0, none⟩) n c8) n (endsV l n), .row 5 1 (.slice (some ⟨gW, 0, none⟩) NW cW) NW ((allB l n ++ rest).map vb)]) := H
          go_wp2_with fail
          refine (next_w _ (NW - q) (cW - q) (en ++ tl) wr ?_ (by omega) (by omega)).mono ?_
          · have h := (H.rd 1 rfl).fld q (NW - q) (by omega) (A := some ⟨gW, q, none⟩) (by rw [Nat.zero_add])
            unfold fld at h
            rw [HD.out] at h
            have e1 := congrArg List.length HD.out
            have e2 := (H.rd 1 rfl).1
            rw [List.length_drop] at e1
            simp only [List.length_map, Nat.mul_one] at e2
            rw [List.take_of_length_le (by omega)] at h
            exact h
          rintro e wx ⟨v5, v6, rfl, HN⟩
          rw [HNX.out] at HN ⊢
          simp only at HN ⊢
          replace H := H.also HN
          replace H := H.shape_row 2 rfl L1.out rfl
          replace H := H.shape_row 3 rfl L2.out rfl
          obtain ⟨A5, c5, rfl, -⟩ := row_form (H.row 2 rfl)
          obtain ⟨B5, d5, rfl, -⟩ := row_form (H.row 3 rfl)
          clear HN
          go_wp2
          refine absorb_wp (H.allocAt 4 rfl wx.heap.size rfl _ _ |>.push_mk rfl) ?_
          clear H
          intro wy H
          generalize wx.heap.size = gO at H ⊢
          replace H : St w [] wy (lay [.row 3 1 (.slice (some ⟨gE, 0, none⟩) n c8) n (endsV l n), .row 5 1 (.slice (some ⟨gW, 0, none⟩) NW cW) NW ((allB l n ++ rest).map vb), .row 5 1 (.slice A5 nA c5) nA (xs.map vb), .row 5 1 (.slice B5 nB d5) nB (ys.map vb), .blk gO 31 [.int .u8 (kd.toNat : Int), .int .i64 h, .int .u8 (al.toNat : Int), .int .i64 cn, .int .i64 ou, .slice A5 nA c5, .slice B5 nB d5]]) := H
          replace H := H.drew
          have hq1 : IntKind.i64.wrap ((q : Int) + (N : Int)) = (q : Int) + (N : Int) := IntWalk.i64_in _ (by omega)
          refine wp_region_held_drew (S := fun w' : World => St w [] w' (lay [.row 3 1 (.slice (some ⟨gE, 0, none⟩) n c8) n (endsV l n), .row 5 1 (.slice (some ⟨gW, 0, none⟩) NW cW) NW ((allB l n ++ rest).map vb), .row 5 1 (.slice A5 nA c5) nA (xs.map vb), .row 5 1 (.slice B5 nB d5) nB (ys.map vb), .blk gO 31 [.int .u8 (kd.toNat : Int), .int .i64 h, .int .u8 (al.toNat : Int), .int .i64 cn, .int .i64 ou, .slice A5 nA c5, .slice B5 nB d5]])) (by kernel_rfl) ?_ (fun hHeld => ?_)
          · exact H
          refine takeV 0 rfl (by intro w h; clear h; go_simp; try with_reducible rfl) (by kernel_rfl) (by kernel_rfl) (by kernel_rfl) (by exact fun _ _ _ h => h) (by rfl) (by assumption) ?_
          try simp only [Act.put, List.setIfInBounds_toArray, List.set_cons_zero, List.set_cons_succ]
          refine takeV 1 rfl (by intro w h; clear h; go_simp; try with_reducible rfl) (by kernel_rfl) (by kernel_rfl) (by kernel_rfl) (by exact fun _ _ _ h => h) (by rfl) (by assumption) ?_
          try simp only [Act.put, List.setIfInBounds_toArray, List.set_cons_zero, List.set_cons_succ]
          refine takeV 2 rfl (by intro w h; clear h; go_simp; try with_reducible rfl) (by kernel_rfl) (by kernel_rfl) (by kernel_rfl) (by exact fun _ _ _ h => h) (by rfl) (by assumption) ?_
          try simp only [Act.put, List.setIfInBounds_toArray, List.set_cons_zero, List.set_cons_succ]
          refine takeV 3 rfl (by intro w h; clear h; go_simp; try with_reducible rfl) (by kernel_rfl) (by kernel_rfl) (by kernel_rfl) (by exact fun _ _ _ h => h) (by rfl) (by assumption) ?_
          try simp only [Act.put, List.setIfInBounds_toArray, List.set_cons_zero, List.set_cons_succ]
          refine takeV 4 rfl (by intro w h; clear h; go_simp; try with_reducible rfl) (by kernel_rfl) (by kernel_rfl) (by kernel_rfl) (by exact fun _ _ _ h => h) (by rfl) (by assumption) ?_
          try simp only [Act.put, List.setIfInBounds_toArray, List.set_cons_zero, List.set_cons_succ]
          refine takeV 5 rfl (by intro w h; clear h; go_simp; try with_reducible rfl) (by kernel_rfl) (by kernel_rfl) (by kernel_rfl) (by exact fun _ _ _ h => h) (by rfl) (by assumption) ?_
          try simp only [Act.put, List.setIfInBounds_toArray, List.set_cons_zero, List.set_cons_succ]
          refine takeV 6 rfl (by intro w h; clear h; go_simp; try with_reducible rfl) (by kernel_rfl) (by kernel_rfl) (by kernel_rfl) (by exact fun _ _ _ h => h) (by rfl) (by assumption) ?_
          try simp only [Act.put, List.setIfInBounds_toArray, List.set_cons_zero, List.set_cons_succ]
          refine takeV 7 rfl (by intro w h; clear h; go_simp; try with_reducible rfl) (by kernel_rfl) (by kernel_rfl) (by kernel_rfl) (by exact fun _ _ _ h => h) (by rfl) (by assumption) ?_
          try simp only [Act.put, List.setIfInBounds_toArray, List.set_cons_zero, List.set_cons_succ]
          refine takeV 8 rfl (by intro w h; clear h; go_simp; try with_reducible rfl) (by kernel_rfl) (by kernel_rfl) (by kernel_rfl) (by exact fun _ _ _ h => h) (by rfl) (by assumption) ?_
          try simp only [Act.put, List.setIfInBounds_toArray, List.set_cons_zero, List.set_cons_succ]
          refine takeV 9 rfl (by intro w h; have hc := h.rowCell 0 rfl HE.out; clear h; go_simp; try with_reducible rfl) (by kernel_rfl) (by kernel_rfl) (by kernel_rfl) (by exact fun _ _ _ h => h) (by rfl) (by assumption) ?_
          try simp only [Act.put, List.setIfInBounds_toArray, List.set_cons_zero, List.set_cons_succ]
          refine takeV 10 rfl (by intro w h; clear h; go_simp; try with_reducible rfl) (by kernel_rfl) (by kernel_rfl) (by kernel_rfl) (by exact fun _ _ _ h => h) (by rfl) (by assumption) ?_
          try simp only [Act.put, List.setIfInBounds_toArray, List.set_cons_zero, List.set_cons_succ]
          refine takeV 11 rfl (by intro w h; clear h; go_simp; try with_reducible rfl) (by kernel_rfl) (by kernel_rfl) (by kernel_rfl) (by exact fun _ _ _ h => h) (by rfl) (by assumption) ?_
          try simp only [Act.put, List.setIfInBounds_toArray, List.set_cons_zero, List.set_cons_succ]
          refine takeV 12 rfl (by intro w h; clear h; go_simp; try with_reducible rfl) (by kernel_rfl) (by kernel_rfl) (by kernel_rfl) (by exact fun _ _ _ h => h) (by rfl) (by assumption) ?_
          try simp only [Act.put, List.setIfInBounds_toArray, List.set_cons_zero, List.set_cons_succ]
          refine takeM 13 gO (0) [.int .u8 (kd.toNat : Int), .int .i64 h, .int .u8 (al.toNat : Int), .int .i64 cn, .int .i64 ou, .slice A5 nA c5, .slice B5 nB d5] (fun w h => h.range 4 rfl) Try.underlying31 op_size rfl (by kernel_rfl) (by kernel_rfl) (by kernel_rfl) (fun _ _ _ h => h) rfl rfl rfl rfl (by assumption) ?_
          try simp only [Act.put, List.setIfInBounds_toArray, List.set_cons_zero, List.set_cons_succ]
          refine takeV 14 rfl (by intro w h; clear h; go_simp; try with_reducible rfl) (by kernel_rfl) (by kernel_rfl) (by kernel_rfl) (by exact fun _ _ _ h => h) (by rfl) (by assumption) ?_
          try simp only [Act.put, List.setIfInBounds_toArray, List.set_cons_zero, List.set_cons_succ]
          refine takeV 15 rfl (by intro w h; clear h; go_simp; try with_reducible rfl) (by kernel_rfl) (by kernel_rfl) (by kernel_rfl) (by exact fun _ _ _ h => h) (by rfl) (by assumption) ?_
          try simp only [Act.put, List.setIfInBounds_toArray, List.set_cons_zero, List.set_cons_succ]
          refine takeV 16 rfl (by intro w h; clear h; go_simp; try with_reducible rfl) (by kernel_rfl) (by kernel_rfl) (by kernel_rfl) (by exact fun _ _ _ h => h) (by rfl) (by assumption) ?_
          try simp only [Act.put, List.setIfInBounds_toArray, List.set_cons_zero, List.set_cons_succ]
          refine takeM 17 p (o + j * 7) [.int .u8 (kd.toNat : Int), .int .i64 h, .int .u8 (al.toNat : Int), .int .i64 cn, .int .i64 ou, .slice A nA cA, .slice B nB cB] (fun w h => op_range (h.arg0 hR) HX.out) Try.underlying31 op_size rfl (by kernel_rfl) (by kernel_rfl) (by kernel_rfl) (fun _ _ _ h => h) rfl rfl rfl rfl (by assumption) ?_
          try simp only [Act.put, List.setIfInBounds_toArray, List.set_cons_zero, List.set_cons_succ]
          refine take_call 18 rfl (by kernel_rfl) (fun K hK => ?_)
          try go_simp
          refine (sameOp_yes kd h al cn ou A5 B5 A B nA nB c5 d5 nA nB cA cB xs ys _ (H.rd 2 rfl) (H.rd 3 rfl) (H.arg0 ra) (H.arg0 rb) (by omega) (by omega)).mono ?_
          rintro e wx ⟨rfl, hb⟩
          replace H := H.call hb
          clear hb
          refine hK.out _ _ ?_ (fun hHeld => ?_)
          · exact H
          clear hK K
          try simp only [Act.put, List.setIfInBounds_toArray, List.set_cons_zero, List.set_cons_succ]
          refine takeV 19 rfl (by intro w h; clear h; go_simp; try with_reducible rfl) (by kernel_rfl) (by kernel_rfl) (by kernel_rfl) (by exact fun _ _ _ h => h) (by rfl) (by assumption) ?_
          try simp only [Act.put, List.setIfInBounds_toArray, List.set_cons_zero, List.set_cons_succ]
          refine takeV 20 rfl (by intro w h; clear h; go_simp; try with_reducible rfl) (by kernel_rfl) (by kernel_rfl) (by kernel_rfl) (by exact fun _ _ _ h => h) (by rfl) (by assumption) ?_
          try simp only [Act.put, List.setIfInBounds_toArray, List.set_cons_zero, List.set_cons_succ]
          refine wpAnyH_done (by kernel_rfl) ?_ _
          clear hHeld hq1
          obtain ⟨ph, pa, pc, po, px, py, lx, ly, PL1, PL2⟩ := plain_twice kd h al cn ou xs ys
          have lx' : px.length ≤ 4000 := by have := L1.out; omega
          have ly' : py.length ≤ 4000 := by have := L2.out; omega
          have PH1 := Lib.hid PL1
          have PH2 := Lib.hid PL2
          clear PL1 PL2 lx ly
          go_wp2_with (first | (refine load_guard (by rfl) 31 (.tmp 15) rfl gO rfl _ _ _ _ (H.blk 4 rfl) Try.underlying31 rfl op_size ?_) | (refine wpList_load_row rfl 31 (.tmp 15) rfl gO rfl _ _ _ _ (H.blk 4 rfl) Try.underlying31 rfl op_size ?_))
          refine (PH1.out A5 B5 nA nB c5 d5 _ (H.rd 2 rfl) (H.rd 3 rfl) (by omega) (by omega)).mono ?_
          rintro e wx ⟨v6, u6, rfl, HN⟩
          replace H := H.also HN
          clear HN
          obtain ⟨A6, c6, rfl, -⟩ := row_form (H.row 5 rfl)
          obtain ⟨B6, d6, rfl, -⟩ := row_form (H.row 6 rfl)
          replace H : St w [] wx (lay [.row 3 1 (.slice (some ⟨gE, 0, none⟩) n c8) n (endsV l n), .row 5 1 (.slice (some ⟨gW, 0, none⟩) NW cW) NW ((allB l n ++ rest).map vb), .row 5 1 (.slice A5 nA c5) nA (xs.map vb), .row 5 1 (.slice B5 nB d5) nB (ys.map vb), .blk gO 31 [.int .u8 (kd.toNat : Int), .int .i64 h, .int .u8 (al.toNat : Int), .int .i64 cn, .int .i64 ou, .slice A5 nA c5, .slice B5 nB d5], .row 5 1 (.slice A6 px.length c6) px.length (px.map vb), .row 5 1 (.slice B6 py.length d6) py.length (py.map vb)]) := H
          have hq1 : IntKind.i64.wrap ((q : Int) + (N : Int)) = (q : Int) + (N : Int) := IntWalk.i64_in _ (by omega)
          go_wp2_with fail
          refine absorb_calls (H.allocAt 7 rfl wx.heap.size rfl _ _ |>.push_mk rfl) ?_
          clear H
          intro wy H
          generalize wx.heap.size = gP at H ⊢
          replace H : St w [] wy (lay [.row 3 1 (.slice (some ⟨gE, 0, none⟩) n c8) n (endsV l n), .row 5 1 (.slice (some ⟨gW, 0, none⟩) NW cW) NW ((allB l n ++ rest).map vb), .row 5 1 (.slice A5 nA c5) nA (xs.map vb), .row 5 1 (.slice B5 nB d5) nB (ys.map vb), .blk gO 31 [.int .u8 (kd.toNat : Int), .int .i64 h, .int .u8 (al.toNat : Int), .int .i64 cn, .int .i64 ou, .slice A5 nA c5, .slice B5 nB d5], .row 5 1 (.slice A6 px.length c6) px.length (px.map vb), .row 5 1 (.slice B6 py.length d6) py.length (py.map vb), .blk gP 31 [.int .u8 (kd.toNat : Int), .int .i64 ph, .int .u8 (pa.toNat : Int), .int .i64 pc, .int .i64 po, .slice A6 px.length c6, .slice B6 py.length d6]]) := H
          clear hq1
          refine (decode_s _ N (cW - q) en _ ?_ (by omega) (by omega)).mono ?_
          · have h := (H.rd 1 rfl).fld q N (by omega) (A := some ⟨gW, q, none⟩) (by rw [Nat.zero_add])
            unfold fld at h
            rw [HD.out, List.take_left' HEL.out] at h
            exact h
          rintro e wx ⟨v7, u7, rfl, HN⟩
          rw [HDX.out] at HN ⊢
          simp only at HN ⊢
          replace H := H.also HN
          replace H := H.shape_row 8 rfl L1.out rfl
          replace H := H.shape_row 9 rfl L2.out rfl
          obtain ⟨A7, c7, rfl, -⟩ := row_form (H.row 8 rfl)
          obtain ⟨B7, d7, rfl, -⟩ := row_form (H.row 9 rfl)
          clear HN
          go_wp2
          refine absorb_wp (H.allocAt 10 rfl wx.heap.size rfl _ _ |>.push_mk rfl) ?_
          clear H
          intro wy H
          generalize wx.heap.size = gQ at H ⊢
          replace H : St w [] wy (lay [.row 3 1 (.slice (some ⟨gE, 0, none⟩) n c8) n (endsV l n), .row 5 1 (.slice (some ⟨gW, 0, none⟩) NW cW) NW ((allB l n ++ rest).map vb), .row 5 1 (.slice A5 nA c5) nA (xs.map vb), .row 5 1 (.slice B5 nB d5) nB (ys.map vb), .blk gO 31 [.int .u8 (kd.toNat : Int), .int .i64 h, .int .u8 (al.toNat : Int), .int .i64 cn, .int .i64 ou, .slice A5 nA c5, .slice B5 nB d5], .row 5 1 (.slice A6 px.length c6) px.length (px.map vb), .row 5 1 (.slice B6 py.length d6) py.length (py.map vb), .blk gP 31 [.int .u8 (kd.toNat : Int), .int .i64 ph, .int .u8 (pa.toNat : Int), .int .i64 pc, .int .i64 po, .slice A6 px.length c6, .slice B6 py.length d6], .row 5 1 (.slice A7 nA c7) nA (xs.map vb), .row 5 1 (.slice B7 nB d7) nB (ys.map vb), .blk gQ 31 [.int .u8 (kd.toNat : Int), .int .i64 h, .int .u8 (al.toNat : Int), .int .i64 cn, .int .i64 ou, .slice A7 nA c7, .slice B7 nB d7]]) := H
          replace H := H.drew
          refine wp_region_held_drew (S := fun w' : World => St w [] w' (lay [.row 3 1 (.slice (some ⟨gE, 0, none⟩) n c8) n (endsV l n), .row 5 1 (.slice (some ⟨gW, 0, none⟩) NW cW) NW ((allB l n ++ rest).map vb), .row 5 1 (.slice A5 nA c5) nA (xs.map vb), .row 5 1 (.slice B5 nB d5) nB (ys.map vb), .blk gO 31 [.int .u8 (kd.toNat : Int), .int .i64 h, .int .u8 (al.toNat : Int), .int .i64 cn, .int .i64 ou, .slice A5 nA c5, .slice B5 nB d5], .row 5 1 (.slice A6 px.length c6) px.length (px.map vb), .row 5 1 (.slice B6 py.length d6) py.length (py.map vb), .blk gP 31 [.int .u8 (kd.toNat : Int), .int .i64 ph, .int .u8 (pa.toNat : Int), .int .i64 pc, .int .i64 po, .slice A6 px.length c6, .slice B6 py.length d6], .row 5 1 (.slice A7 nA c7) nA (xs.map vb), .row 5 1 (.slice B7 nB d7) nB (ys.map vb), .blk gQ 31 [.int .u8 (kd.toNat : Int), .int .i64 h, .int .u8 (al.toNat : Int), .int .i64 cn, .int .i64 ou, .slice A7 nA c7, .slice B7 nB d7]])) (by kernel_rfl) ?_ (fun hHeld => ?_)
          · exact H
          refine takeM 0 gP (0) [.int .u8 (kd.toNat : Int), .int .i64 ph, .int .u8 (pa.toNat : Int), .int .i64 pc, .int .i64 po, .slice A6 px.length c6, .slice B6 py.length d6] (fun w h => h.range 7 rfl) Try.underlying31 op_size rfl (by kernel_rfl) (by kernel_rfl) (by kernel_rfl) (fun _ _ _ h => h) rfl rfl rfl rfl (by assumption) ?_
          try simp only [Act.put, List.setIfInBounds_toArray, List.set_cons_zero, List.set_cons_succ]
          refine takeM 2 gP (0) [.int .u8 (kd.toNat : Int), .int .i64 ph, .int .u8 (pa.toNat : Int), .int .i64 pc, .int .i64 po, .slice A6 px.length c6, .slice B6 py.length d6] (fun w h => h.range 7 rfl) Try.underlying31 op_size rfl (by kernel_rfl) (by kernel_rfl) (by kernel_rfl) (fun _ _ _ h => h) rfl rfl rfl rfl (by assumption) ?_
          try simp only [Act.put, List.setIfInBounds_toArray, List.set_cons_zero, List.set_cons_succ]
          refine take_call 1 rfl (by kernel_rfl) (fun K hK => ?_)
          try go_simp
          refine (PH2.out A6 B6 _ _ c6 d6 _ (H.rd 5 rfl) (H.rd 6 rfl) (by omega) (by omega)).mono ?_
          rintro e wx ⟨v9, u9, rfl, HN⟩
          replace H := H.also HN
          clear HN
          obtain ⟨A9, c9, rfl, -⟩ := row_form (H.row 11 rfl)
          obtain ⟨B9, d9, rfl, -⟩ := row_form (H.row 12 rfl)
          replace H : St w [] wx (lay [.row 3 1 (.slice (some ⟨gE, 0, none⟩) n c8) n (endsV l n), .row 5 1 (.slice (some ⟨gW, 0, none⟩) NW cW) NW ((allB l n ++ rest).map vb), .row 5 1 (.slice A5 nA c5) nA (xs.map vb), .row 5 1 (.slice B5 nB d5) nB (ys.map vb), .blk gO 31 [.int .u8 (kd.toNat : Int), .int .i64 h, .int .u8 (al.toNat : Int), .int .i64 cn, .int .i64 ou, .slice A5 nA c5, .slice B5 nB d5], .row 5 1 (.slice A6 px.length c6) px.length (px.map vb), .row 5 1 (.slice B6 py.length d6) py.length (py.map vb), .blk gP 31 [.int .u8 (kd.toNat : Int), .int .i64 ph, .int .u8 (pa.toNat : Int), .int .i64 pc, .int .i64 po, .slice A6 px.length c6, .slice B6 py.length d6], .row 5 1 (.slice A7 nA c7) nA (xs.map vb), .row 5 1 (.slice B7 nB d7) nB (ys.map vb), .blk gQ 31 [.int .u8 (kd.toNat : Int), .int .i64 h, .int .u8 (al.toNat : Int), .int .i64 cn, .int .i64 ou, .slice A7 nA c7, .slice B7 nB d7], .row 5 1 (.slice A9 px.length c9) px.length (px.map vb), .row 5 1 (.slice B9 py.length d9) py.length (py.map vb)]) := H
          refine hK.out _ _ ?_ (fun hHeld => ?_)
          · exact H.pick (fun i => i) (fun _ _ h => h) (fun k A h => by rcases k with _|_|_|_|_|_|_|_|_|_|_|k <;> first | exact h | simp [lay] at h)
          clear hK K
          try simp only [Act.put, List.setIfInBounds_toArray, List.set_cons_zero, List.set_cons_succ]
          refine take_call 3 rfl (by kernel_rfl) (fun K hK => ?_)
          try go_simp
          refine (sameOp_yes kd ph pa pc po A9 B9 A6 B6 _ _ c9 d9 _ _ c6 d6 px py _ (H.rd 11 rfl) (H.rd 12 rfl) (H.rd 5 rfl) (H.rd 6 rfl) (by omega) (by omega)).mono ?_
          rintro e wx ⟨rfl, hb⟩
          replace H := H.call hb
          clear hb
          refine hK.out _ _ ?_ (fun hHeld => ?_)
          · exact H.pick (fun i => i) (fun _ _ h => h) (fun k A h => by rcases k with _|_|_|_|_|_|_|_|_|_|_|k <;> first | exact h | simp [lay] at h)
          clear hK K
          try simp only [Act.put, List.setIfInBounds_toArray, List.set_cons_zero, List.set_cons_succ]
          refine takeV 4 rfl (by intro w h; clear h; go_simp; try with_reducible rfl) (by kernel_rfl) (by kernel_rfl) (by kernel_rfl) (by exact fun _ _ _ h => h) (by rfl) (by assumption) ?_
          try simp only [Act.put, List.setIfInBounds_toArray, List.set_cons_zero, List.set_cons_succ]
          refine takeV 5 rfl (by intro w h; clear h; go_simp; try with_reducible rfl) (by kernel_rfl) (by kernel_rfl) (by kernel_rfl) (by exact fun _ _ _ h => h) (by rfl) (by assumption) ?_
          try simp only [Act.put, List.setIfInBounds_toArray, List.set_cons_zero, List.set_cons_succ]
          refine takeV 6 rfl (by intro w h; clear h; go_simp; try with_reducible rfl) (by kernel_rfl) (by kernel_rfl) (by kernel_rfl) (by exact fun _ _ _ h => h) (by rfl) (by assumption) ?_
          try simp only [Act.put, List.setIfInBounds_toArray, List.set_cons_zero, List.set_cons_succ]
          refine takeV 7 rfl (by intro w h; clear h; go_simp; try with_reducible rfl) (by kernel_rfl) (by kernel_rfl) (by kernel_rfl) (by exact fun _ _ _ h => h) (by rfl) (by assumption) ?_
          try simp only [Act.put, List.setIfInBounds_toArray, List.set_cons_zero, List.set_cons_succ]
          refine takeV 8 rfl (by intro w h; clear h; go_simp; try with_reducible rfl) (by kernel_rfl) (by kernel_rfl) (by kernel_rfl) (by exact fun _ _ _ h => h) (by rfl) (by assumption) ?_
          try simp only [Act.put, List.setIfInBounds_toArray, List.set_cons_zero, List.set_cons_succ]
          refine takeV 9 rfl (by intro w h; clear h; go_simp; try with_reducible rfl) (by kernel_rfl) (by kernel_rfl) (by kernel_rfl) (by exact fun _ _ _ h => h) (by rfl) (by assumption) ?_
          try simp only [Act.put, List.setIfInBounds_toArray, List.set_cons_zero, List.set_cons_succ]
          refine takeM 10 gQ (0) [.int .u8 (kd.toNat : Int), .int .i64 h, .int .u8 (al.toNat : Int), .int .i64 cn, .int .i64 ou, .slice A7 nA c7, .slice B7 nB d7] (fun w h => h.range 10 rfl) Try.underlying31 op_size rfl (by kernel_rfl) (by kernel_rfl) (by kernel_rfl) (fun _ _ _ h => h) rfl rfl rfl rfl (by assumption) ?_
          try simp only [Act.put, List.setIfInBounds_toArray, List.set_cons_zero, List.set_cons_succ]
          refine takeM 11 gO (0) [.int .u8 (kd.toNat : Int), .int .i64 h, .int .u8 (al.toNat : Int), .int .i64 cn, .int .i64 ou, .slice A5 nA c5, .slice B5 nB d5] (fun w h => h.range 4 rfl) Try.underlying31 op_size rfl (by kernel_rfl) (by kernel_rfl) (by kernel_rfl) (fun _ _ _ h => h) rfl rfl rfl rfl (by assumption) ?_
          try simp only [Act.put, List.setIfInBounds_toArray, List.set_cons_zero, List.set_cons_succ]
          refine take_call 12 rfl (by kernel_rfl) (fun K hK => ?_)
          try go_simp
          refine (opSame_yes kd h al cn ou A7 B7 A5 B5 nA nB c7 d7 nA nB c5 d5 xs ys _ (H.rd 8 rfl) (H.rd 9 rfl) (H.rd 2 rfl) (H.rd 3 rfl) (by omega) (by omega) (by omega) (by omega)).mono ?_
          rintro e wx ⟨rfl, hb⟩
          replace H := H.call hb
          clear hb
          refine hK.out _ _ ?_ (fun hHeld => ?_)
          · exact H.pick (fun i => i) (fun _ _ h => h) (fun k A h => by rcases k with _|_|_|_|_|_|_|_|_|_|_|k <;> first | exact h | simp [lay] at h)
          clear hK K
          try simp only [Act.put, List.setIfInBounds_toArray, List.set_cons_zero, List.set_cons_succ]
          refine takeV 13 rfl (by intro w h; clear h; go_simp; try with_reducible rfl) (by kernel_rfl) (by kernel_rfl) (by kernel_rfl) (by exact fun _ _ _ h => h) (by rfl) (by assumption) ?_
          try simp only [Act.put, List.setIfInBounds_toArray, List.set_cons_zero, List.set_cons_succ]
          refine takeV 14 rfl (by intro w h; clear h; go_simp; try with_reducible rfl) (by kernel_rfl) (by kernel_rfl) (by kernel_rfl) (by exact fun _ _ _ h => h) (by rfl) (by assumption) ?_
          try simp only [Act.put, List.setIfInBounds_toArray, List.set_cons_zero, List.set_cons_succ]
          refine wpAnyH_done (by kernel_rfl) ?_ _
          clear hHeld
          replace H := H.front 2
          replace H : St w [] wx (lay [.row 3 1 (.slice (some ⟨gE, 0, none⟩) n c8) n (endsV l n), .row 5 1 (.slice (some ⟨gW, 0, none⟩) NW cW) NW ((allB l n ++ rest).map vb)]) := H
          clear f1
          go_wp2
          go_roundw
          case rel => exact ⟨j + 1, by omega, by go_num, by rw [HQ1.out]; go_num, H⟩
          case measure => simp [intOf]; omega
        · obtain rfl : n = j := by omega
          have hj1 : ¬ (n : Int) < n := by omega
          by_cases h0 : n = 0
          · have h1 : ((n : Int) == 0) = true := by subst h0; rfl
            clear h0
            go_wp2
            go_ret
            exact ⟨rfl, H.below⟩
          · have h1 : ((n : Int) == 0) = false := by simp; omega
            have hp : 0 < n := by omega
            have hp2 : (0 : Int) < n := by omega
            obtain ⟨x, hx⟩ : ∃ r, l[0]? = some r := ⟨_, List.getElem?_eq_getElem (by rw [HL.out]; exact hp)⟩
            have ok := HOK.out x (List.mem_of_getElem? hx)
            have hsm := HT.out 0 x hp hx
            obtain ⟨l1, l2⟩ := ok.le (w' := w)
            have hd := allB_drop hx rest
            have hz : allB l 0 = [] := by unfold allB; rw [List.take_zero, List.flatMap_nil]
            rw [HL.out, hz, List.length_nil, List.drop_zero] at hd
            have hq1 : (allB l (0 + 1)).length = 32 + x.n + x.m := by rw [allB_succ hx, hz, List.nil_append, encOf_length, l1, l2]
            have hq2 := allB_mono l (0 + 1) n (by omega)
            have hq3 := HNW.out
            have hE := endsV_get (l := l) hp
            generalize (l.drop (0 + 1)).flatMap encOf ++ rest = tl at hd
            obtain ⟨N, hN'⟩ : ∃ N, (allB l (0 + 1)).length = N := ⟨_, rfl⟩
            rw [hN'] at hq1 hq2 hE
            have hcut : ∀ k, k < N → nextR ((allB l n ++ rest).take k) = noNext := by
              intro k hk
              rw [hd]
              exact next_cut x.k x.h x.a x.c x.o x.xs x.ys tl k (by omega) (by omega) (by omega)
            obtain ⟨gW, rfl, -⟩ := HAW.out (by omega)
            obtain ⟨gE, rfl, -⟩ := HA8.out (by omega)
            have hb1 : N ≤ NW := by omega
            have hb2 : 32 ≤ N := by omega
            have hb3 : N ≤ 4032 := by omega
            have HCUT := Lib.hid hcut
            have c0 := H.rowCell 0 rfl hE
            clear hx ok hsm l1 l2 hd hz hq1 hq2 hq3 hE hN' hcut h0
            replace H : St w [] wr (lay [.row 3 1 (.slice (some ⟨gE, 0, none⟩) n c8) n (endsV l n), .row 5 1 (.slice (some ⟨gW, 0, none⟩) NW cW) NW ((allB l n ++ rest).map vb)]) := H
            go_wp2_with fail
            refine (pick_any cut N _ hc1 hc2 (by omega) (by omega) rfl).mono ?_
            rintro e wx ⟨⟨k, hk, hke, rfl⟩, rfl⟩
            have hk1 : (k : Int) ≤ 4032 := by omega
            have hk2 : (k : Int) ≤ NW := by omega
            have hk3 : k ≤ 4032 := by omega
            have hk4 : k ≤ cW := by omega
            have HN1 := Lib.hid (HCUT.out k hk)
            have HN2 := Lib.hid (decR_cut HN1.out)
            have HR : ∀ w' E, St w [] w' E → E 1 = some (.row 5 1 (.slice (some ⟨gW, 0, none⟩) NW cW) NW ((allB l n ++ rest).map vb)) → Rd w' 1 (some ⟨gW, 0, none⟩) k (((allB l n ++ rest).take k).map vb) := by
              intro w' E H' hE
              have h := (H'.rd 1 hE).take (show k ≤ NW by omega)
              exact h
            have HRR := Lib.hid HR
            clear hke HR c0 HCUT hk
            go_wp2_with fail
            refine (next_no _ k cW _ _ (HRR.out _ _ H rfl) (by omega) (by omega) HN1.out).mono ?_
            rintro e wx ⟨A5, n5, c5, A6, n6, c6, rfl, hb⟩
            replace H := H.call hb
            clear hb
            go_wp2_with fail
            refine absorb_calls (H.allocAt 2 rfl wx.heap.size rfl _ _) ?_
            clear H
            intro wy H
            refine (decode_no _ k cW _ _ (HRR.out _ _ H rfl) (by omega) (by omega) HN2.out).mono ?_
            rintro e wz ⟨B5, m5, d5, B6, m6, d6, rfl, hb⟩
            replace H := H.call hb
            clear hb
            go_wp2
            go_ret
            exact ⟨rfl, (H.allocAt 3 rfl wz.heap.size rfl _ _).below⟩
end Go.Proofs.Ytgfhnbjpdhdhgaa
