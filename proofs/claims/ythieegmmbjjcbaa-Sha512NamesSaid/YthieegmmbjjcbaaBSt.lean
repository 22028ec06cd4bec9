/- Rows of bytes out of a state: what the walks over bytes share. -/
import Derived.Test.YthieegmmbjjcbaaApart
import Derived.Test.YthieegmmbjjcbaaFlat
import Derived.Test.YthieegmmbjjcbaaHeld
import Derived.Deep.Cut
import Derived.Lib.AppendZerosOnto
namespace Go.Proofs.Ythieegmmbjjcbaa
open Go.RowKit
set_option linter.unusedVariables false

/-- n bytes from a on -/
def fld (l : List UInt8) (a n : Nat) : List UInt8 := (l.drop a).take n
theorem fld_length (l : List UInt8) (a n : Nat) (h : a + n ≤ l.length) : (fld l a n).length = n := by simp [fld]; omega
theorem Rd.fld {w : World} {b o n : Nat} {l : List UInt8} (h : Rd w 1 (some ⟨b, o, none⟩) n (l.map vb)) (a m : Nat) (hm : a + m ≤ n) {A : Option Addr} (hA : A = some ⟨b, o + a, none⟩) : Rd w 1 A m ((fld l a m).map vb) := by
  have hl : l.length = n := by simpa using h.1
  refine ⟨by simp [Go.Proofs.Ythieegmmbjjcbaa.fld]; omega, fun hn => ⟨_, hA, ?_, fun j u hu => ?_⟩⟩
  · obtain ⟨ad, e, hb, -⟩ := h.2 (by omega)
    injection e with e; subst e; exact hb
  · obtain ⟨ad, e, -, hc⟩ := h.2 (by omega)
    injection e with e; subst e
    have hj : j < ((Go.Proofs.Ythieegmmbjjcbaa.fld l a m).map vb).length := (List.getElem?_eq_some_iff.1 hu).1
    have hj2 : j < m := by simp [Go.Proofs.Ythieegmmbjjcbaa.fld] at hj; omega
    have h2 := hc (a + j) u (by
      rw [← hu]
      simp [Go.Proofs.Ythieegmmbjjcbaa.fld, List.getElem?_drop, hj2])
    rw [Addr.add_mid] at h2 ⊢
    rw [Nat.add_assoc]; exact h2

theorem Rd.fld_if {w : World} {b o n : Nat} {l : List UInt8} (h : Rd w 1 (some ⟨b, o, none⟩) n (l.map vb)) (a m c : Nat) (hm : a + m ≤ n) (hc : n ≤ c) : Rd w 1 (if c = a then some ⟨b, o, none⟩ else some ⟨b, o + a, none⟩) m ((Go.Proofs.Ythieegmmbjjcbaa.fld l a m).map vb) := by
  by_cases hca : c = a
  · obtain rfl : m = 0 := by omega
    exact ⟨by simp [Go.Proofs.Ythieegmmbjjcbaa.fld], fun h => by omega⟩
  · exact h.fld a m hm (by rw [if_neg hca])
def Held (p : Prop) : Prop := p
theorem hold_here {p : Prop} (h : Held p) : p := h
theorem Held.go {p : Prop} (h : p) : Held p := h
theorem absorb_post {Q : Exit → Act → World → Prop} {a : Act} {w0 w : World} {F0 : List Nat} {E : Env} (H : St w0 F0 w E) (h : ∀ w', St w0 F0 w' E → Q .normal a w') : Q .normal a w := h w H
theorem Rd.zero {w : World} {A : Option Addr} {m : Nat} (h : m = 0) : Rd w 1 A m (([] : List UInt8).map vb) := ⟨by simp [h], fun h' => by omega⟩

theorem own_enc {w : World} {base n : Nat} {v : Value} {l : List UInt8} {xs : List Value} (h : l.map vb = xs) (ho : w.ownsRow base 5 1 v n xs) (hn : n = l.length) : OwnB w base v l := by
  subst h hn; exact ho
theorem St.pushOwnB {w0 w w' : World} {F0 : List Nat} {E : Env} {v : Value} {l : List UInt8} (H : St w0 F0 w E) (k : Nat) (hk : E k = none) (ho : OwnB w' w.heap.size v l) (hb : Below w.heap.size w w') : St w0 F0 w' (upd E k (.row 5 1 v l.length (l.map vb))) := H.pushRow k hk hb ho
theorem St.lit {w0 w : World} {F0 : List Nat} {E : Env} (H : St w0 F0 w E) (k : Nat) (hk : E k = none) (e : TypeId) (cs : Array Value) (n : Nat) (hn : cs.size = n) (h1 : n ≤ 1000) (b : Nat) (hb : b = w.heap.size) : St w0 F0 (w.alloc (.cells cs e)) (upd E k (.row e 1 (.slice (some ⟨b, 0, none⟩) n n) n cs.toList)) := by
  subst hb
  exact H.pushRow k hk ((Below.refl _ _).alloc (Nat.le_refl _) _) (World.ownsRow_lit w cs n (Nat.le_refl _) (by simp only [maxLen]; omega) (by omega))
theorem St.shape_row {w0 w : World} {F0 : List Nat} {L : List Own} {e : TypeId} {v : Value} {n n' : Nat} {xs xs' : List Value} (H : St w0 F0 w (lay L)) (k : Nat) (hk : L[k]? = some (.row e 1 v n xs)) (hn : n = n') (hx : xs = xs') : St w0 F0 w (lay (L.set k (.row e 1 v n' xs'))) := by
  subst hn hx
  have h := List.getElem?_eq_some_iff.1 hk
  obtain ⟨h1, h2⟩ := h
  rw [← h2, List.set_getElem_self]
  exact H
theorem St.perm {w0 w : World} {F0 : List Nat} {L L' : List Own} (H : St w0 F0 w (lay L)) (p : List Nat) (n : Nat) (hn : L'.length = n) (hp : ∀ i, i < n → ∀ j, j < n → p.getD i 0 = p.getD j 0 → i = j) (h : ∀ i, i < n → L[p.getD i 0]? = L'[i]?) : St w0 F0 w (lay L') := by
  obtain ⟨lo, Fs, h1, h2⟩ := H
  have hl : ∀ i A, lay L' i = some A → i < n ∧ lay L (p.getD i 0) = some A := by
    intro i A hA
    have hi : i < n := by rw [← hn]; exact (List.getElem?_eq_some_iff.1 hA).1
    exact ⟨hi, (h i hi).trans hA⟩
  exact ⟨lo, fun k => Fs (p.getD k 0), fun i A hA => h1 _ A (hl i A hA).2, fun i j A B hij hA hB => h2 _ _ A B (fun e => hij (hp i (hl i A hA).1 j (hl j B hB).1 e)) (hl i A hA).2 (hl j B hB).2⟩
/-- one piece alone is kept -/
theorem St.only {w0 w : World} {F0 : List Nat} {L : List Own} {A : Own} (H : St w0 F0 w (lay L)) (i : Nat) (h : L[i]? = some A) : St w0 F0 w (lay [A]) :=
  H.perm [i] 1 rfl (by intro i hi j hj _; omega) (by
    intro j hj
    obtain rfl : j = 0 := by omega
    exact h)
theorem Rd.front {w : World} {A : Option Addr} {n m : Nat} {l k : List UInt8} (h : Rd w 1 A m ((l ++ k).map vb)) (hn : l.length = n) (hm : n ≤ m) : Rd w 1 A n (l.map vb) := by
  have := h.take hm
  rw [List.take_left' hn] at this
  exact this
theorem b_bne (x : Int) : (x != x) = false := by simp
theorem u8_wrap (x : Nat) : IntKind.u8.wrap (x : Int) = ((UInt8.ofNat (x % 256)).toNat : Int) := by
  rw [UInt8.toNat_ofNat', IntKind.wrap_u8]
  omega

theorem St.rows_ne {w0 w : World} {F0 : List Nat} {E : Env} {e e' : TypeId} {s s' n n' : Nat} {v v' : Value} {xs xs' : List Value} (H : St w0 F0 w E) (i j : Nat) (hij : i ≠ j) (hi : E i = some (.row e s v n xs)) (hj : E j = some (.row e' s' v' n' xs')) : v.ownBlock = none ∨ v.ownBlock ≠ v'.ownBlock := by
  obtain ⟨F, ⟨-, e1⟩, -, hd, -⟩ := H.change i hi
  obtain ⟨G, ⟨-, e2⟩, hd'⟩ := hd j _ (fun e => hij e.symm) hj
  cases hv : v.ownBlock with
  | none => exact .inl rfl
  | some g =>
    refine .inr fun h => ?_
    exact hd' g (by rw [e2, ← h]; simp) (by rw [e1, hv]; simp)
theorem St.hp {w0 w : World} {E : Env} (H : St w0 [] w E) (ps : List (Value × List UInt8)) (f : Nat → Nat) (hf : ∀ i j, i < ps.length → j < ps.length → f i = f j → i = j) (h : ∀ i p, ps[i]? = some p → E (f i) = some (.row 5 1 p.1 p.2.length (p.2.map vb))) : Hp w w0.heap.size ps := by
  refine ⟨fun i p hp => H.ownRow (f i) (h i p hp), fun i j p q hij hp hq => ?_⟩
  have li := (List.getElem?_eq_some_iff.1 hp).1
  have lj := (List.getElem?_eq_some_iff.1 hq).1
  exact H.rows_ne (f i) (f j) (fun e => hij (hf i j li lj e)) (h i p hp) (h j q hq)

theorem apart_st {w0 w : World} {E : Env} (H : St w0 [] w E) (ps : List (Value × List UInt8)) (f : Nat → Nat) (hf : ∀ i j, i < ps.length → j < ps.length → f i = f j → i = j) (h : ∀ i p, ps[i]? = some p → E (f i) = some (.row 5 1 p.1 p.2.length (p.2.map vb)))
    (n : Nat) (hN : ps.length = n) (hN' : n ≤ 1000) (hlen : ∀ p ∈ ps, p.2.length ≤ 140737488355320) (cs : Array Value) (hcs : cs = (ps.map (·.1)).toArray) :
    Calls Try.prog 18 #[.slice (some ⟨w.heap.size, 0, none⟩) n n] (w.alloc (.cells cs 22)) fun e w' => e = .returned (.bool true) ∧ Below w0.heap.size w0 w' := by
  subst hN hcs
  have hsz := H.low.size
  have hL : LR (w.alloc (.cells (ps.map (·.1)).toArray 22)) w.heap.size ps.length ps.length (ps.map (·.1)) := by
    have := World.ownsRow_lit (base := 0) (e := 22) (size := 1) w (ps.map (·.1)).toArray ps.length (Nat.zero_le _) (by simp only [maxLen]; omega) (by simp)
    simpa [LR] using this
  have h1 := H.call ((Below.refl _ _).alloc (Nat.le_refl _) (.cells (ps.map (·.1)).toArray 22))
  have hF := (h1.hp ps f hf h).fam
  refine (apartBytes_any w.heap.size ps.length ps.length w0.heap.size _ _ _ hL hF hN' (by simp; omega) ?_).mono fun e w' he => ⟨he.1, h1.below.trans he.2⟩
  intro j hj
  rw [List.getD_eq_getElem?_getD, List.getElem?_map, List.getElem?_eq_getElem hj]
  exact hlen _ (List.getElem_mem hj)

theorem over_st {w0 w : World} {F0 : List Nat} {E : Env} {g n c : Nat} {l : List UInt8} (H : St w0 F0 w E) (i : Nat) (hi : E i = some (.row 5 1 (.slice (some ⟨g, 0, none⟩) n c) n (l.map vb))) (hn : n ≤ 140737488355328) :
    Calls Try.prog 13 #[.slice (some ⟨g, 0, none⟩) n c] w fun e w' => e = .returned (.tuple #[]) ∧ St w0 F0 w' (upd E i (.row 5 1 (.slice (some ⟨g, 0, none⟩) n c) n ((marksB 9 0 n).map vb))) := by
  have hr := H.row i hi
  have hl : n = l.length := by have := hr.1; simp at this; omega
  have ho : OwnB w 0 (.slice (some ⟨g, 0, none⟩) n c) l := by unfold OwnB; rw [← hl]; exact hr
  refine (overBytes_any 0 g c n l w ho hl hn).mono ?_
  rintro e w' ⟨rfl, ho', hg⟩
  refine ⟨rfl, H.grow i hi ?_ hg (.inl rfl)⟩
  unfold OwnB at ho'
  rw [marksB_length] at ho'
  exact ho'

/-- append of noughts: 'append(s, make([]byte, k)...)' -/
theorem zeroCells_one (z : Value) (k : Nat) : (Builtin.zeroCells #[z] k).toList = List.replicate k z := by
  refine List.ext_getElem? fun i => ?_
  simp [Builtin.zeroCells, List.getElem?_replicate]
  by_cases h : i < k
  · simp [h, Nat.mod_one]
  · simp [h]
theorem run_append_zeros {P : Program} (w : World) (base : Nat) (t tn ty e : TypeId) (i : TypeInfo) (z : Value) (kn : IntKind) (ht : P.underlying t = some (.slice e)) (htn : P.underlying tn = some (.int kn)) (hi : P.info? e = some i) (hz : i.zero = some z)
    (hsize : i.size = 1) (hby : i.bytes = 1) (hzs : z.cells = #[z]) (hz1 : z.oneCell' = true)
    (v : Value) (n : Nat) (xs : List Value) (hown : w.ownsRow base e 1 v n xs) (k : Nat) (hk : n + k ≤ 140737488355328) (hbase : base ≤ w.heap.size) :
    ∃ v' w', (Builtin.append_ #[t, tn] ty #[v, .int .i64 (k : Int)]).run P w = .ok v' w' ∧ w'.ownsRow base e 1 v' (n + k) (xs ++ List.replicate k z) ∧ w.grownBy w' v.ownBlock ∧ (v'.ownBlock = v.ownBlock ∨ v'.ownBlock = some w.heap.size) := by
  have hw : IntKind.i64.wrap (k : Int) = k := by rw [IntKind.wrap_i64]; omega
  have hneg : ¬ ((k : Int) < 0) := by omega
  have h48i : ¬ (281474976710656 < (k : Int)) := by omega
  have hlen : (xs ++ List.replicate k z).length = (n + k) * 1 := by rw [List.length_append, hown.1, List.length_replicate]; omega
  have hzl : (Builtin.zeroCells z.cells k).size = k := by rw [hzs]; simp [Builtin.zeroCells]
  have grown : ∀ (old : Nat) (pre : Array Value), pre.toList = xs →
      (w.drew.alloc (.cells (pre ++ Builtin.zeroCells z.cells k ++ Builtin.zeroCells z.cells (grownCap w (n + k) old e - (n + k))) e)).ownsRow base e 1
        (.slice (some ⟨w.heap.size, 0, none⟩) (n + k) (grownCap w (n + k) old e)) (n + k) (xs ++ List.replicate k z) := by
    intro old pre hpre
    have hge := grownCap_ge w (n + k) old e
    have hcm : grownCap w (n + k) old e ≤ maxLen := grownCap_le_maxLen w (n + k) old e (by simp only [maxLen]; omega)
    have hps : pre.size = n := by rw [← Array.length_toList, hpre]; have := hown.1; omega
    refine ⟨hlen, .inr ⟨w.heap.size, _, _, rfl, hbase, heap_alloc_new w.drew _, hge, hcm, ?_, ?_⟩⟩
    · simp only [Array.size_append, hps, hzl]
      rw [hzs]
      simp [Builtin.zeroCells]
      try omega
    · simp only [Array.toList_append]
      rw [hpre, hzs, zeroCells_one, ← hlen]
      exact List.take_left
  have hbel : ∀ o, w.grownBy (w.drew.alloc o) v.ownBlock := fun o => by
    have hb : Below w.heap.size w (w.drew.alloc o) := (Below.refl _ _).drew.alloc (Nat.le_refl _) _
    exact ⟨hb.os, hb.tape, hb.output, hb.size, fun k hk _ => hb.block k hk⟩
  rcases hown.2 with ⟨rfl, rfl⟩ | ⟨g, cap, cur, rfl, hbg, hg, hnc, hcm, hcs, htake⟩
  · have hx : xs = [] := List.eq_nil_of_length_eq_zero (by simpa using hown.1)
    subst hx
    rcases Nat.eq_zero_or_pos k with h0 | h0
    · subst h0
      refine ⟨.slice none 0 0, w, ?_, by simpa using hown, World.grownBy.refl w _, .inl rfl⟩
      simp [Builtin.append_, run_underlying ht, run_underlying htn, sizeOf, typeInfo, hi, asInt, asIntOf, show IntKind.i64.wrap 0 = 0 from rfl]
    · have hr := Go.Lib.run_append_nil_zeros (P := P) w t tn ty e i z .i64 kn ht htn hi hz k h0 (by omega) (by omega) (by rw [hby]; omega)
      have hgr := grown 0 #[] rfl
      simp only [Nat.zero_add, Array.empty_append] at hgr
      refine ⟨_, _, hr, ?_, hbel _, .inr rfl⟩
      simpa using hgr
  · by_cases hroom : n + k ≤ cap
    · rcases Nat.eq_zero_or_pos k with h0 | h0
      · subst h0
        refine ⟨.slice (some ⟨g, 0, none⟩) n cap, w, ?_, by simpa using hown, World.grownBy.refl w _, .inl rfl⟩
        simp [Builtin.append_, run_underlying ht, run_underlying htn, sizeOf, typeInfo, hi, asInt, asIntOf, show IntKind.i64.wrap 0 = 0 from rfl, hnc, storeCells]
      · have hst := run_storeCells_at P g (n * 1) e (List.replicate k z) 0 cur w hg (by simp; omega) (by intro u hu; rw [List.eq_of_mem_replicate hu]; exact hz1)
        simp only [Nat.add_zero, Nat.mul_one] at hst
        have hns : ¬ (k = 0) := by omega
        have hzt : (Builtin.zeroCells z.cells k).toList = List.replicate k z := by rw [hzs]; exact zeroCells_one z k
        have hrun : (Builtin.append_ #[t, tn] ty #[.slice (some ⟨g, 0, none⟩) n cap, .int .i64 (k : Int)]).run P w = .ok (.slice (some ⟨g, 0, none⟩) (n + k) cap) (w.setRow g (cur.toList.take n ++ List.replicate k z ++ cur.toList.drop (n + (List.replicate k z).length)).toArray) := by
          simp [Builtin.append_, run_underlying ht, run_underlying htn, sizeOf, typeInfo, zeroValue, hi, hz, hsize, hby, asInt, asIntOf, hw, hneg, h48i, hns, hroom, hzt, Addr.add_lit]
          have h9 := hst
          simp at h9 ⊢
          rw [h9]
          rfl
        refine ⟨_, _, hrun, ⟨hlen, .inr ⟨g, cap, _, rfl, hbg, setRow_heap w g cur _ e _ hg, hroom, hcm, ?_, ?_⟩⟩, ⟨rfl, rfl, rfl, by simp, fun k _ hk => setRow_other w g k _ (fun e => hk (by simp [Value.ownBlock, e]))⟩, .inl rfl⟩
        · simp only [List.size_toArray, List.length_append, List.length_take, List.length_drop, Array.length_toList, List.length_replicate]
          omega
        · rw [← hlen]
          have : cur.toList.take n = xs := by rw [← htake, Nat.mul_one]
          rw [this]
          exact List.take_left
    · have hx1 : cur.toList.take (n * 1) = xs := htake
      have hold := run_firstCells_some (P := P) w.drew i.size n ⟨g, 0, none⟩ n cap xs (by rw [hsize]; exact hown.1) (by simpa using hown.cells (g := g) rfl)
      have h0 : 0 < k := by omega
      have hr := Go.Lib.run_append_grow_zeros (P := P) w t tn ty e i z .i64 kn ht htn hi hz (some ⟨g, 0, none⟩) n cap xs hold k h0 (by omega) (by omega) (by omega) (by rw [hby]; omega) (growslice_fits (by omega) (by rw [hby]; omega))
      exact ⟨_, _, hr, grown cap xs.toArray (by simp), hbel _, .inr rfl⟩
end Go.Proofs.Ythieegmmbjjcbaa
