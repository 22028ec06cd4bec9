/- Texts of this claim, merged: Lib, Row, RowU, RowStB, Sep, Flat, RowC, RowCa, KitB, Heap. -/
import Derived.WalkKit
import Derived.WalkSpells
import Derived.WalkLawsBesides
import Derived.Deep.QuietTactic
import Derived.Deep.AppendLies
import Derived.Maps.AppendAt
import Derived.RegionTactic
import Derived.OwnWalk
import Derived.Laws.AppendOwnNone
import Derived.Laws.CopyOwn
import Derived.Deep.RegionLaw
import Derived.Deep.RegionWith
import Derived.Deep.RegionHeld3
import Derived.Deep.DeepFit
import Derived.Deep.DeepCutAuto
import Derived.Deep.Draws
import Derived.BigQuiet
import Derived.StillTailTactics
import Derived.Lib.Hide
import Derived.Test.YthoopaknldkclaaRows
import Derived.ProofKit
import Derived.OpenShut
import Derived.ShutString
import Derived.ChangeOld
import Derived.Below
import Derived.SizedLaws
import Derived.JoinedCond
import Derived.Deep.MidRow
import Derived.Deep.Slices
set_option linter.unusedVariables false

namespace Go.Proofs.Ythoopaknldkclaa
open Go.RowKit

theorem block_of_add (a : Addr) (n : Nat) : (a.add n).block = a.block := by unfold Addr.add; split <;> rfl
theorem add_of_add (a : Addr) (i j : Nat) : (a.add i).add j = a.add (i + j) := by
  unfold Addr.add
  by_cases hi : i = 0 <;> by_cases hj : j = 0 <;> simp [hi, hj, Nat.add_assoc]

theorem bdrewN {B : Nat} {a w : World} (h : Below B a w) (n : Nat) : Below B a (w.drewN n) := ⟨h.os, h.tape, h.output, h.size, h.block⟩

/-- A slice value '.slice A n c' that reads as the cells xs. -/
def Rd (w : World) (size : Nat) (A : Option Addr) (n : Nat) (xs : List Value) : Prop :=
  xs.length = n * size ∧ (0 < n → ∃ ad, A = some ad ∧ ad.block < w.heap.size ∧ ∀ j u, xs[j]? = some u → w.cell? (ad.add j) = some u)

section
variable {w w' : World} {size n : Nat} {A : Option Addr} {xs : List Value}
theorem Rd.none_ : Rd w size A 0 [] := ⟨by simp, fun h => absurd h (by omega)⟩
theorem Rd.at_ {k : Nat} (h : Rd w 1 A n xs) (hk : k < n) : ∃ ad u, A = some ad ∧ ad.block < w.heap.size ∧ xs[k]? = some u ∧ w.cell? (ad.add k) = some u := by
  obtain ⟨ad, e, hb, hc⟩ := h.2 (by omega)
  have hl : k < xs.length := by have := h.1; omega
  exact ⟨ad, xs[k], e, hb, List.getElem?_eq_getElem hl, hc k _ (List.getElem?_eq_getElem hl)⟩
theorem Rd.keep (h : Rd w size A n xs) (hs : w.heap.size ≤ w'.heap.size) (hk : ∀ p : Addr, p.block < w.heap.size → w'.cell? p = w.cell? p) : Rd w' size A n xs :=
  ⟨h.1, fun hn => by
    obtain ⟨ad, e, hb, hc⟩ := h.2 hn
    exact ⟨ad, e, by omega, fun j u hu => (hk _ (by rw [block_of_add]; exact hb)).trans (hc j u hu)⟩⟩
theorem Rd.below (h : Rd w size A n xs) (hb : Below w.heap.size w w') : Rd w' size A n xs := h.keep hb.size fun _ hp => hb.cell hp
theorem Rd.drewN (h : Rd w size A n xs) (k : Nat) : Rd (w.drewN k) size A n xs := h
theorem Rd.of_own {base c : Nat} {e : TypeId} (h : w.ownsRow base e size (.slice A n c) n xs) : Rd w size A n xs := by
  refine ⟨h.1, fun hn => ?_⟩
  obtain ⟨g, cap, hv, _, hlt⟩ := h.form hn
  have hA : A = some ⟨g, 0, none⟩ := by injection hv
  subst hA
  exact ⟨_, rfl, hlt, h.cells (g := g) rfl⟩
end

theorem Rd.new1 (w : World) (u : Value) (t : TypeId) : Rd ((w.alloc (.cells #[u] t)).drew) 1 (some ⟨w.heap.size, 0, none⟩) 1 [u] :=
  ⟨rfl, fun _ => ⟨_, rfl, by simp, cell_one_new _ _ _⟩⟩
/-- A byte as a value. -/
abbrev vb (b : UInt8) : Value := .int .u8 (b.toNat : Int)
theorem Rd.byteAt {w : World} {A : Option Addr} {n k : Nat} {l : List UInt8} (h : Rd w 1 A n (l.map vb)) (hk : k < n) :
    ∃ ad b, A = some ad ∧ l[k]? = some b ∧ w.cell? (ad.add k) = some (.int .u8 (b.toNat : Int)) := by
  obtain ⟨ad, u, rfl, -, hu, hc⟩ := h.at_ hk
  rw [List.getElem?_map] at hu
  cases hb : l[k]? with
  | none => rw [hb] at hu; cases hu
  | some b => rw [hb] at hu; cases hu; exact ⟨ad, b, rfl, rfl, hc⟩
theorem Rd.byteIn {w : World} {A : Option Addr} {n k : Nat} {l : List UInt8} (h : Rd w 1 A n (l.map vb)) (hk : k < n) :
    ∃ ad b, A = some ad ∧ l[k]? = some b ∧ w.cell? (ad.add k) = some (.int .u8 (b.toNat : Int)) ∧ (ad.add k).block < w.heap.size := by
  obtain ⟨ad, b, rfl, hb, hc⟩ := h.byteAt hk
  obtain ⟨ad', e, hl, -⟩ := h.2 (by omega)
  injection e with e
  subst e
  exact ⟨ad, b, rfl, hb, hc, by rw [block_of_add]; exact hl⟩
theorem Rd.take {w : World} {A : Option Addr} {n k : Nat} {l : List UInt8} (h : Rd w 1 A n (l.map vb)) (hk : k ≤ n) : Rd w 1 A k ((l.take k).map vb) := by
  have hl := h.1
  rw [List.length_map] at hl
  refine ⟨by simp; omega, fun hn => ?_⟩
  obtain ⟨ad, rfl, hb, hc⟩ := h.2 (by omega)
  refine ⟨ad, rfl, hb, fun j u hu => hc j u ?_⟩
  rw [List.map_take, List.getElem?_take] at hu
  split at hu
  · exact hu
  · cases hu
theorem Rd.drew_ {w : World} {size n : Nat} {A : Option Addr} {xs : List Value} (h : Rd w size A n xs) : Rd w.drew size A n xs := h
theorem take_succ_eq {α : Type} {l m : List α} {k : Nat} {x : α} (h : l.take k = m.take k) (hx : l[k]? = some x) (hy : m[k]? = some x) : l.take (k + 1) = m.take (k + 1) := by
  rw [List.take_add_one, List.take_add_one, h, hx, hy]
theorem u8_ne {x y : UInt8} (h : ((x.toNat : Int) != (y.toNat : Int)) = true) : x ≠ y := by
  rintro rfl; simp at h
theorem u8_eq {x y : UInt8} (h : ((x.toNat : Int) != (y.toNat : Int)) = false) : x = y := by
  have h' : (x.toNat : Int) = (y.toNat : Int) := by simpa using h
  exact UInt8.toNat_inj.1 (by omega)
theorem ret_bool {a b : Bool} (h : a = b) : Ending.returned (.bool a) = .returned (.bool b) := by rw [h]
section
variable {P : Program} (w : World)

theorem run_append_of_nil (base : Nat) (t ty e : TypeId) (i : TypeInfo) (size : Nat) (ht : P.underlying t = some (.slice e)) (hi : P.info? e = some i)
    (v : Value) (n : Nat) (xs : List Value) (hown : w.ownsRow base e size v n xs) (c : Nat) : (Builtin.append_ #[t, t] ty #[v, .slice none 0 c]).run P w = .ok v w := by
  rcases hown.2 with ⟨rfl, rfl⟩ | ⟨g, cap, cur, rfl, _, _, hnc, _⟩
  · simp [Builtin.append_, run_underlying ht, sizeOf, typeInfo, hi, Builtin.lenOf, Builtin.firstCells]
  · simp [Builtin.append_, run_underlying ht, sizeOf, typeInfo, hi, Builtin.lenOf, Builtin.firstCells, hnc, storeCells]

theorem run_append_any (base : Nat) (t ty e : TypeId) (i : TypeInfo) (z : Value) (size bytes : Nat) (ht : P.underlying t = some (.slice e)) (hi : P.info? e = some i) (hz : i.zero = some z)
    (hsize : i.size = size) (hby : i.bytes = bytes) (hzs : z.cells.size = size) (hsz : 0 < size)
    (v : Value) (n : Nat) (xs : List Value) (hown : w.ownsRow base e size v n xs)
    (A : Option Addr) (m c : Nat) (news : List Value) (hr : Rd w size A m news) (h1 : ∀ u ∈ news, u.oneCell' = true)
    (h63 : n + m ≤ maxLen) (hbytes : (n + m) * bytes ≤ 140737488355328) (hbase : base ≤ w.heap.size) :
    ∃ v' w', (Builtin.append_ #[t, t] ty #[v, .slice A m c]).run P w = .ok v' w' ∧ w'.ownsRow base e size v' (n + m) (xs ++ news) ∧ w.grownBy w' v.ownBlock ∧
      (v'.ownBlock = v.ownBlock ∨ v'.ownBlock = some w.heap.size) := by
  rcases A with _ | ad
  · have hm : m = 0 := by
      rcases Nat.eq_zero_or_pos m with h0 | h0
      · exact h0
      · obtain ⟨ad, h, _⟩ := hr.2 h0
        cases h
    subst hm
    have hn : news = [] := List.eq_nil_of_length_eq_zero (by simpa using hr.1)
    subst hn
    exact ⟨v, w, run_append_of_nil w base t ty e i size ht hi v n xs hown c, by simpa using hown, World.grownBy.refl w _, .inl rfl⟩
  · have hcells : ∀ j u, news[j]? = some u → w.cell? (ad.add j) = some u := by
      intro j u hu
      rcases Nat.eq_zero_or_pos m with h0 | h0
      · subst h0
        have hn : news = [] := List.eq_nil_of_length_eq_zero (by simpa using hr.1)
        subst hn
        simp at hu
      · obtain ⟨ad', h, _, hc⟩ := hr.2 h0
        injection h with h
        subst h
        exact hc j u hu
    obtain ⟨v', w', hrun, h2, h3, _, h5⟩ := run_append_own_at (P := P) w base t ty e i z size bytes ht hi hz hsize hby hzs hsz v n xs hown ad m c news hr.1 hcells h1 h63 hbytes hbase
    exact ⟨v', w', hrun, h2, h3, h5⟩

theorem wp_append_any {o : Oper} {a : Act} {K : Act → World → Prop} {Q : Exit → Act → World → Prop} (s x : Operand) (t : TypeId)
    (ho : o.op = .call { callee := .builtin .append, args := #[s, x], argTypes := #[t, t] })
    (base : Nat) (e : TypeId) (i : TypeInfo) (z : Value) (size bytes : Nat) (ht : P.underlying t = some (.slice e)) (hi : P.info? e = some i) (hz : i.zero = some z)
    (hsize : i.size = size) (hby : i.bytes = bytes) (hzs : z.cells.size = size) (hsz : 0 < size)
    (v : Value) (n : Nat) (xs : List Value) (hs : a.eval s = v) (hown : w.ownsRow base e size v n xs)
    (A : Option Addr) (m c : Nat) (news : List Value) (hx : a.eval x = .slice A m c) (hr : Rd w size A m news) (h1 : ∀ u ∈ news, u.oneCell' = true)
    (h63 : n + m ≤ maxLen) (hbytes : (n + m) * bytes ≤ 140737488355328) (hbase : base ≤ w.heap.size)
    (h : ∀ v' w', w'.ownsRow base e size v' (n + m) (xs ++ news) → w.grownBy w' v.ownBlock → (v'.ownBlock = v.ownBlock ∨ v'.ownBlock = some w.heap.size) → K (a.put o.dst v') w') : o.wp P a w K Q := by
  obtain ⟨v', w', hrun, h2, h3, h4⟩ := run_append_any (P := P) w base t o.type e i z size bytes ht hi hz hsize hby hzs hsz v n xs hown A m c news hr h1 h63 hbytes hbase
  unfold Oper.wp execOp
  simp only [ho, resolve, invoke, builtin, Sem.run_bind, Sem.run_pure, Result.andThen_ok, List.map_toArray, List.map_cons, List.map_nil, hs, hx, hrun]
  exact h v' w' h2 h3 h4

theorem wpList_append_any {ops : Array Oper} {rest : List Oper} {o : Oper} {a : Act} {Q : Exit → Act → World → Prop} (hgd : o.guard = none) (s x : Operand) (t : TypeId)
    (ho : o.op = .call { callee := .builtin .append, args := #[s, x], argTypes := #[t, t] })
    (base : Nat) (e : TypeId) (i : TypeInfo) (z : Value) (size bytes : Nat) (ht : P.underlying t = some (.slice e)) (hi : P.info? e = some i) (hz : i.zero = some z)
    (hsize : i.size = size) (hby : i.bytes = bytes) (hzs : z.cells.size = size) (hsz : 0 < size)
    (v : Value) (n : Nat) (xs : List Value) (hs : a.eval s = v) (hown : w.ownsRow base e size v n xs)
    (A : Option Addr) (m c : Nat) (news : List Value) (hx : a.eval x = .slice A m c) (hr : Rd w size A m news) (h1 : ∀ u ∈ news, u.oneCell' = true)
    (h63 : n + m ≤ maxLen) (hbytes : (n + m) * bytes ≤ 140737488355328) (hbase : base ≤ w.heap.size)
    (h : ∀ v' w', w'.ownsRow base e size v' (n + m) (xs ++ news) → w.grownBy w' v.ownBlock → (v'.ownBlock = v.ownBlock ∨ v'.ownBlock = some w.heap.size) → wpList P ops Q rest (a.put o.dst v') w') : wpList P ops Q (o :: rest) a w :=
  wpList_plain hgd fun _ hK => wp_append_any w s x t ho base e i z size bytes ht hi hz hsize hby hzs hsz v n xs hs hown A m c news hx hr h1 h63 hbytes hbase fun v' w' h2 h3 h4 => hK _ _ (h v' w' h2 h3 h4)

theorem step_append_any {ops : Array Oper} {o : Oper} {a : Act} {K : Act → World → Prop} {Q : Exit → Act → World → Prop} {E : Prop} (hgd : o.guard = none) (s x : Operand) (t : TypeId)
    (ho : o.op = .call { callee := .builtin .append, args := #[s, x], argTypes := #[t, t] })
    (base : Nat) (e : TypeId) (i : TypeInfo) (z : Value) (size bytes : Nat) (ht : P.underlying t = some (.slice e)) (hi : P.info? e = some i) (hz : i.zero = some z)
    (hsize : i.size = size) (hby : i.bytes = bytes) (hzs : z.cells.size = size) (hsz : 0 < size)
    (v : Value) (n : Nat) (xs : List Value) (hs : a.eval s = v) (hown : w.ownsRow base e size v n xs)
    (A : Option Addr) (m c : Nat) (news : List Value) (hx : a.eval x = .slice A m c) (hr : Rd w size A m news) (h1 : ∀ u ∈ news, u.oneCell' = true)
    (h63 : n + m ≤ maxLen) (hbytes : (n + m) * bytes ≤ 140737488355328) (hbase : base ≤ w.heap.size)
    (h : ∀ v' w', w'.ownsRow base e size v' (n + m) (xs ++ news) → w.grownBy w' v.ownBlock → (v'.ownBlock = v.ownBlock ∨ v'.ownBlock = some w.heap.size) → K (a.put o.dst v') w') :
    if Region.wanted o (yielded ops a.tmps) = true then Oper.wp P o a w K Q else E := by
  have hw : Region.wanted o (yielded ops a.tmps) = true := by simp [Region.wanted, hgd]
  rw [if_pos hw]
  exact wp_append_any w s x t ho base e i z size bytes ht hi hz hsize hby hzs hsz v n xs hs hown A m c news hx hr h1 h63 hbytes hbase h
end
theorem quiet_add {P : Program} {f : FuncId} {args : Array Value} {w : World} {a n : Nat} {v : Value}
    (h : Calls P f args (w.drewN (a + n)) fun e w' => e = .returned v ∧ ∃ m, w' = (w.drewN (a + n)).drewN m) :
    Calls P f args (w.drewN (a + n)) fun e w'' => e = .returned v ∧ ∃ m, w'' = w.drewN (a + m) :=
  h.mono fun _ _ ⟨he, m, hm⟩ => ⟨he, n + m, by rw [hm, World.drewN_drewN, Nat.add_assoc]⟩
theorem quiet_add_same {P : Program} {f : FuncId} {args : Array Value} {w : World} {a n : Nat} {v : Value}
    (h : Calls P f args (w.drewN (a + n)) fun e w' => e = .returned v ∧ w' = w.drewN (a + n)) :
    Calls P f args (w.drewN (a + n)) fun e w'' => e = .returned v ∧ ∃ m, w'' = w.drewN (a + m) :=
  h.mono fun _ _ ⟨he, hm⟩ => ⟨he, n, hm⟩
theorem quiet_add_left {P : Program} {f : FuncId} {args : Array Value} {w : World} {a n : Nat} {v : Value}
    (h : Calls P f args (w.drewN (a + n)) fun e w' => e = .returned v ∧ w.drewN (a + n) = w') :
    Calls P f args (w.drewN (a + n)) fun e w'' => e = .returned v ∧ ∃ m, w'' = w.drewN (a + m) :=
  h.mono fun _ _ ⟨he, hm⟩ => ⟨he, n, hm.symm⟩
theorem quiet_left {P : Program} {f : FuncId} {args : Array Value} {w : World} {n : Nat} {v : Value}
    (h : Calls P f args (w.drewN n) fun e w' => e = .returned v ∧ w.drewN n = w') : Calls P f args (w.drewN n) fun e w'' => e = .returned v ∧ ∃ m, w'' = w.drewN m :=
  h.mono fun _ _ ⟨he, hm⟩ => ⟨he, n, hm.symm⟩
end Go.Proofs.Ythoopaknldkclaa

namespace Go.Proofs.Ythoopaknldkclaa
open Go.ChangeShapes Go.WideShapes Go.ChangeAt Go.RowKit
open Go.ChangeMaps (open_string shut_string)

theorem rowOwn : ownKnob Try.prog.godebug = none := by kernel_rfl
theorem rowLaid : laidOutB Try.prog = true := by kernel_rfl
theorem rowBytes : Try.prog.bytesOf 5 = 1 := by kernel_rfl
theorem rowCells : Try.prog.cellsOf 5 = 1 := by kernel_rfl

theorem open_bytes {H : Type} {enc : TypeId × Value → H} {W : World} {ts : List TypeId} {ds : List (DataW H)} {d : DataW H} {p : List MemPlace} {j : Nat} {a : Option Addr} {len cap : Nat} {b : Nat} {sp : Nat → Bool} {hd : Bool}
    (hsz : (DataW.weightsEach Try.prog ts ds).all (· ≤ reachBytes) = true) (ht : ts[j]? = some 22) (hdj : ds[j]? = some d)
    (h : DataW.Trod enc Try.prog W b sp hd 22 (.slice a len cap) d p) : ∃ l : List UInt8, Rd W 1 a len (l.map vb) ∧ len ≤ 140737488351232 := by
  obtain ⟨fuel, hf⟩ := h
  rcases open_ints Try.underlying22 Try.underlying5 rowCells hf with ⟨hcs, _⟩ | ⟨x, l, c, zs, hcs, _, hl, hm, hz, hx, hcell, hwz⟩
  · simp [Value.cells] at hcs
    obtain ⟨rfl, rfl, rfl⟩ := hcs
    exact ⟨[], Rd.none_, by omega⟩
  · simp [Value.cells] at hcs
    obtain ⟨rfl, rfl, rfl⟩ := hcs
    injection hx with hx1 hx2
    subst hx1
    have hs := sized_slice hsz ht hdj Try.underlying22
    rw [rowBytes] at hs
    simp only [lits, List.length_map, List.length_take, List.length_drop, reachBytes] at hs
    have hlz : len ≤ zs.length := by rw [hz]; split <;> omega
    have hb : ∀ (i : Nat) (hi : i < zs.length), 0 ≤ zs[i] ∧ zs[i] ≤ 255 := fun i hi => by
      exact bounds_u8 (hwz _ (List.getElem_mem hi))
    refine ⟨(zs.take len).map fun z => UInt8.ofNat z.toNat, ⟨by simp; omega, fun hn => ⟨x, rfl, ?_, fun i u hu => ?_⟩⟩, by omega⟩
    · have h0 := hcell 0 (by omega)
      have := World.block_lt_of_cell? W _ h0
      rwa [block_of_add] at this
    · rw [List.map_map, List.getElem?_map, List.getElem?_take] at hu
      by_cases hi : i < len
      · rw [if_pos hi, List.getElem?_eq_getElem (by omega)] at hu
        simp only [Option.map_some, Function.comp, Option.some.injEq] at hu
        subst hu
        rw [hcell i (by omega), List.getD_eq_getElem?_getD, List.getElem?_eq_getElem (by omega)]
        have h2 := hb i (by omega)
        simp only [Option.getD_some, vb, UInt8.toNat_ofNat', Option.some.injEq, Value.int.injEq, true_and]
        omega
      · rw [if_neg hi] at hu; cases hu

theorem open_cap {H : Type} {enc : TypeId × Value → H} {W : World} {d : DataW H} {p : List MemPlace} {a : Option Addr} {len cap : Nat} {b : Nat} {sp : Nat → Bool} {hd : Bool}
    (h : DataW.Trod enc Try.prog W b sp hd 22 (.slice a len cap) d p) : len ≤ cap := by
  obtain ⟨fuel, hf⟩ := h
  rcases open_ints Try.underlying22 Try.underlying5 rowCells hf with ⟨hcs, _⟩ | ⟨x, l, c, zs, hcs, _, hl, _⟩
  · simp [Value.cells] at hcs
    obtain ⟨rfl, rfl, rfl⟩ := hcs
    exact Nat.le_refl _
  · simp [Value.cells] at hcs
    obtain ⟨rfl, rfl, rfl⟩ := hcs
    exact hl

theorem u64_of {x : Int} (h : (Lit.int .u64 x).wf = true) : ∃ u : UInt64, x = (u.toNat : Int) := by
  have hb : 0 ≤ x ∧ x ≤ 18446744073709551615 := by
    simp [Lit.wf, IntKind.min, IntKind.max, IntKind.signed, IntKind.bits] at h
    omega
  exact ⟨UInt64.ofNat x.toNat, by rw [UInt64.toNat_ofNat']; omega⟩
theorem u32_of {x : Int} (h : (Lit.int .u32 x).wf = true) : ∃ u : UInt32, x = (u.toNat : Int) := by
  have hb : 0 ≤ x ∧ x ≤ 4294967295 := by
    simp [Lit.wf, IntKind.min, IntKind.max, IntKind.signed, IntKind.bits] at h
    omega
  exact ⟨UInt32.ofNat x.toNat, by rw [UInt32.toNat_ofNat']; omega⟩
theorem u8_of {x : Int} (h : (Lit.int .u8 x).wf = true) : ∃ u : UInt8, x = (u.toNat : Int) := by
  have hb := bounds_u8 h
  exact ⟨UInt8.ofNat x.toNat, by rw [UInt8.toNat_ofNat']; omega⟩
theorem i64_of {x : Int} (h : (Lit.int .i64 x).wf = true) : -9223372036854775808 ≤ x ∧ x ≤ 9223372036854775807 := by
  simp [Lit.wf, IntKind.min, IntKind.max, IntKind.signed, IntKind.bits] at h
  omega
end Go.Proofs.Ythoopaknldkclaa

namespace Go.Proofs.Ythoopaknldkclaa
open Go.ChangeShapes Go.WideShapes Go.ChangeAt Go.RowKit
open Go.ChangeMaps (open_string shut_string)
set_option linter.unusedVariables false

theorem bulk_mem {H : Type} {ds : List (DataW H)} {d : DataW H} {i : Nat} (h : ds[i]? = some d) : Rows.uptoBulk d ≤ Rows.uptoBulkAll ds := by
  induction ds generalizing i with
  | nil => simp at h
  | cons x r ih =>
    rw [Rows.uptoBulkAll]
    cases i with
    | zero => simp at h; subst h; omega
    | succ i => have := ih (i := i) (by simpa using h); omega

theorem upto_of {H : Type} {ds : List (DataW H)} (h : Rows.uptoSmall H ds = true) : Rows.uptoBulkAll ds ≤ 1048576 := by
  unfold Rows.uptoSmall at h
  exact of_decide_eq_true h

theorem bulk_lits {H : Type} (k : IntKind) (zs : List Int) : Rows.uptoBulkAll (lits (H := H) k zs) = zs.length := by
  induction zs with
  | nil => rfl
  | cons z zs ih =>
    show Rows.uptoBulk (DataW.lit (.int k z)) + Rows.uptoBulkAll (lits (H := H) k zs) = _
    rw [ih, List.length_cons]
    show 1 + zs.length = zs.length + 1
    omega

theorem open_bytesU {H : Type} {enc : TypeId × Value → H} {W : World} {d : DataW H} {p : List MemPlace} {a : Option Addr} {len cap : Nat} {b : Nat} {sp : Nat → Bool} {hd : Bool}
    (h : DataW.Trod enc Try.prog W b sp hd 22 (.slice a len cap) d p) (hu : Rows.uptoBulk d ≤ 1048576) : ∃ l : List UInt8, Rd W 1 a len (l.map vb) ∧ len ≤ 1048576 := by
  obtain ⟨fuel, hf⟩ := h
  rcases open_ints Try.underlying22 Try.underlying5 rowCells hf with ⟨hcs, _⟩ | ⟨x, l, c, zs, hcs, _, hl, hm, hz, hx, hcell, hwz⟩
  · simp [Value.cells] at hcs
    obtain ⟨rfl, rfl, rfl⟩ := hcs
    exact ⟨[], Rd.none_, by omega⟩
  · simp [Value.cells] at hcs
    obtain ⟨rfl, rfl, rfl⟩ := hcs
    injection hx with hx1 hx2
    subst hx1
    have hlz : len ≤ zs.length := by rw [hz]; split <;> omega
    have hs : len ≤ 1048576 := by
      rw [Rows.uptoBulk, bulk_lits, List.length_take] at hu
      omega
    have hb : ∀ (i : Nat) (hi : i < zs.length), 0 ≤ zs[i] ∧ zs[i] ≤ 255 := fun i hi => by
      exact bounds_u8 (hwz _ (List.getElem_mem hi))
    refine ⟨(zs.take len).map fun z => UInt8.ofNat z.toNat, ⟨by simp; omega, fun hn => ⟨x, rfl, ?_, fun i u hu => ?_⟩⟩, by omega⟩
    · have h0 := hcell 0 (by omega)
      have := World.block_lt_of_cell? W _ h0
      rwa [block_of_add] at this
    · rw [List.map_map, List.getElem?_map, List.getElem?_take] at hu
      by_cases hi : i < len
      · rw [if_pos hi, List.getElem?_eq_getElem (by omega)] at hu
        simp only [Option.map_some, Function.comp, Option.some.injEq] at hu
        subst hu
        rw [hcell i (by omega), List.getD_eq_getElem?_getD, List.getElem?_eq_getElem (by omega)]
        have h2 := hb i (by omega)
        simp only [Option.getD_some, vb, UInt8.toNat_ofNat', Option.some.injEq, Value.int.injEq, true_and]
        omega
      · rw [if_neg hi] at hu; cases hu

end Go.Proofs.Ythoopaknldkclaa

namespace Go.Proofs.Ythoopaknldkclaa
open Go.ChangeShapes Go.WideShapes Go.ChangeAt Go.RowKit
set_option linter.unusedVariables false
set_option maxRecDepth 100000

theorem bytes_trodU {H : Type} {enc : TypeId × Value → H} {W : World} {b : Nat} {sp : Nat → Bool} {hd : Bool} {fuel : Nat} {c : Value} {x : DataW H × List MemPlace}
    (hu : Rows.uptoBulk x.1 ≤ 1048576) (hf : DataW.trod enc Try.prog W b sp hd fuel 22 [c] = some x) :
    ∃ (a : Option Addr) (len cap : Nat) (l : List UInt8), c = .slice a len cap ∧ Rd W 1 a len (l.map vb) ∧ len ≤ 1048576 ∧ len ≤ cap := by
  rcases open_ints Try.underlying22 Try.underlying5 rowCells hf with ⟨hcs, _⟩ | ⟨x', len, cap, zs, hcs, _, hl, hm, hz, hx, hcell, hwz⟩
  · simp at hcs
    exact ⟨none, 0, 0, [], hcs, Rd.none_, by omega, by omega⟩
  · simp only [List.cons.injEq, and_true] at hcs
    subst hcs
    subst hx
    have hlz : len ≤ zs.length := by rw [hz]; split <;> omega
    have hs : len ≤ 1048576 := by
      rw [Rows.uptoBulk, bulk_lits, List.length_take] at hu
      omega
    have hb : ∀ (i : Nat) (hi : i < zs.length), 0 ≤ zs[i] ∧ zs[i] ≤ 255 := fun i hi => bounds_u8 (hwz _ (List.getElem_mem hi))
    refine ⟨some x', len, cap, (zs.take len).map fun z => UInt8.ofNat z.toNat, rfl, ⟨by simp; omega, fun hn => ⟨x', rfl, ?_, fun i u hu => ?_⟩⟩, by omega, hl⟩
    · have h0 := hcell 0 (by omega)
      have := World.block_lt_of_cell? W _ h0
      rwa [block_of_add] at this
    · rw [List.map_map, List.getElem?_map, List.getElem?_take] at hu
      by_cases hi : i < len
      · rw [if_pos hi, List.getElem?_eq_getElem (by omega)] at hu
        simp only [Option.map_some, Function.comp, Option.some.injEq] at hu
        subst hu
        rw [hcell i (by omega), List.getD_eq_getElem?_getD, List.getElem?_eq_getElem (by omega)]
        have h2 := hb i (by omega)
        simp only [Option.getD_some, vb, UInt8.toNat_ofNat', Option.some.injEq, Value.int.injEq, true_and]
        omega
      · rw [if_neg hi] at hu; cases hu

theorem bool_trodU {H : Type} {enc : TypeId × Value → H} {W : World} {b : Nat} {sp : Nat → Bool} {hd : Bool} {fuel : Nat} {cs : List Value} {x : DataW H × List MemPlace}
    (hf : DataW.trod enc Try.prog W b sp hd fuel 4 cs = some x) : ∃ v : Bool, cs = [.bool v] := by
  obtain ⟨v, e, -⟩ := DataW.trod_bool Try.underlying4 hf
  exact ⟨v, e⟩

end Go.Proofs.Ythoopaknldkclaa

namespace Go.Proofs.Ythoopaknldkclaa
open Go.RowKit
set_option linter.unusedVariables false

/-- A piece of memory: what holds of a world and of the blocks that are its own. -/
structure Own where
  holds : World → List Nat → Prop
  loc : ∀ {w w' : World} {F : List Nat}, holds w F → (∀ g ∈ F, w'.heap[g]? = w.heap[g]?) → holds w' F
  old : ∀ {w : World} {F : List Nat}, holds w F → ∀ g ∈ F, g < w.heap.size

theorem lt_of_heap {w : World} {g : Nat} {o : Obj} (h : w.heap[g]? = some o) : g < w.heap.size := (Array.getElem?_eq_some_iff.1 h).1

/-- A block known whole. -/
def Own.blk (g : Nat) (T : TypeId) (cs : List Value) : Own where
  holds w F := w.heap[g]? = some (.cells cs.toArray T (0, 0)) ∧ F = [g]
  loc := fun ⟨h, e⟩ k => ⟨by rw [k g (by simp [e])]; exact h, e⟩
  old := fun ⟨h, e⟩ k hk => by rw [e] at hk; simp at hk; subst hk; exact lt_of_heap h

theorem ownsRow_loc {w w' : World} {base : Nat} {e : TypeId} {size n : Nat} {v : Value} {xs : List Value} (h : w.ownsRow base e size v n xs) (k : ∀ g ∈ v.ownBlock.toList, w'.heap[g]? = w.heap[g]?) : w'.ownsRow base e size v n xs := by
  refine ⟨h.1, ?_⟩
  rcases h.2 with hn | ⟨g, cap, cur, rfl, hb, hg, rest⟩
  · exact .inl hn
  · exact .inr ⟨g, cap, cur, rfl, hb, by rw [k g (by simp [Value.ownBlock])]; exact hg, rest⟩
theorem ownsRow_base {w : World} {base base' : Nat} {e : TypeId} {size n : Nat} {v : Value} {xs : List Value} (h : w.ownsRow base e size v n xs) (k : ∀ g ∈ v.ownBlock.toList, base' ≤ g) : w.ownsRow base' e size v n xs := by
  refine ⟨h.1, ?_⟩
  rcases h.2 with hn | ⟨g, cap, cur, rfl, hb, rest⟩
  · exact .inl hn
  · exact .inr ⟨g, cap, cur, rfl, k g (by simp [Value.ownBlock]), rest⟩

/-- A slice of one's own: nil, or the beginning of a block. -/
def Own.row (e : TypeId) (size : Nat) (v : Value) (n : Nat) (xs : List Value) : Own where
  holds w F := w.ownsRow 0 e size v n xs ∧ F = v.ownBlock.toList
  loc := fun ⟨h, e⟩ k => ⟨ownsRow_loc h (by rw [← e]; exact k), e⟩
  old := fun ⟨h, e⟩ k hk => by
    rw [e] at hk
    cases hv : v.ownBlock with
    | none => rw [hv] at hk; simp at hk
    | some g => rw [hv] at hk; simp at hk; subst hk; exact (World.ownsRow.lt h _ hv).2

def Own.emp : Own where
  holds _ F := F = []
  loc := fun h _ => h
  old := fun h k hk => by rw [h] at hk; simp at hk

def Own.sep (A B : Own) : Own where
  holds w F := ∃ G H, F = G ++ H ∧ A.holds w G ∧ B.holds w H ∧ ∀ g ∈ G, g ∉ H
  loc := fun ⟨G, H, e, a, b, d⟩ k => ⟨G, H, e, A.loc a fun g hg => k g (by simp [e, hg]), B.loc b fun g hg => k g (by simp [e, hg]), d⟩
  old := fun ⟨G, H, e, a, b, _⟩ g hg => by rw [e, List.mem_append] at hg; exact hg.elim (A.old a g) (B.old b g)

def Own.ex {α : Type} (A : α → Own) : Own where
  holds w F := ∃ a, (A a).holds w F
  loc := fun ⟨a, h⟩ k => ⟨a, (A a).loc h k⟩
  old := fun ⟨a, h⟩ => (A a).old h

def Own.fact (p : Prop) (A : Own) : Own where
  holds w F := p ∧ A.holds w F
  loc := fun ⟨a, h⟩ k => ⟨a, A.loc h k⟩
  old := fun ⟨_, h⟩ => A.old h

/-- What was there, but for the blocks F0, is as it was. -/
structure Low (w0 : World) (F0 : List Nat) (w : World) : Prop where
  os : w.os = w0.os
  tape : w.tape = w0.tape
  output : w.output = w0.output
  size : w0.heap.size ≤ w.heap.size
  block : ∀ k, k < w0.heap.size → k ∉ F0 → w.heap[k]? = w0.heap[k]?

theorem Low.refl (w : World) (F : List Nat) : Low w F w := ⟨rfl, rfl, rfl, Nat.le_refl _, fun _ _ _ => rfl⟩
theorem Low.trans {a b c : World} {F G : List Nat} (h : Low a F b) (k : Low b G c) (hG : ∀ g ∈ G, g ∈ F ∨ a.heap.size ≤ g) : Low a F c :=
  ⟨k.os.trans h.os, k.tape.trans h.tape, k.output.trans h.output, Nat.le_trans h.size k.size, fun i hi hn => (k.block i (Nat.lt_of_lt_of_le hi h.size) fun m => by
    rcases hG i m with e | e
    · exact hn e
    · omega).trans (h.block i hi hn)⟩
theorem Low.of_below {w w' : World} (h : Below w.heap.size w w') (F : List Nat) : Low w F w' := ⟨h.os, h.tape, h.output, h.size, fun k hk _ => h.block k hk⟩
theorem Low.below {w w' : World} (h : Low w [] w') : Below w.heap.size w w' := ⟨h.os, h.tape, h.output, h.size, fun k hk => h.block k hk (by simp)⟩
theorem Low.of_grown {w w' : World} {row : Option Nat} (h : w.grownBy w' row) : Low w row.toList w' := ⟨h.os, h.tape, h.output, h.size, fun k hk hn => h.block k hk (by cases row <;> simp_all)⟩
theorem Low.setCell (w : World) (a : Addr) (u : Value) : Low w [a.block] (w.setCell a u) := ⟨rfl, rfl, rfl, by simp [World.setCell], fun k _ hn => Below.heap_setCell _ _ _ _ (by simpa using hn)⟩
theorem Low.alloc (w : World) (o : Obj) (F : List Nat) : Low w F (w.alloc o) := .of_below ((Below.refl _ _).alloc (Nat.le_refl _) o) F
theorem Low.more {a b : World} {F G : List Nat} (h : Low a F b) (hG : ∀ g ∈ F, g ∈ G) : Low a G b := ⟨h.os, h.tape, h.output, h.size, fun k hk hn => h.block k hk fun m => hn (hG k m)⟩

abbrev Env := Nat → Option Own
def Env.nil : Env := fun _ => none
def upd (E : Env) (k : Nat) (A : Own) : Env := fun i => if i = k then some A else E i
def del (E : Env) (k : Nat) : Env := fun i => if i = k then none else E i

theorem upd_same {E : Env} {k : Nat} {A : Own} : upd E k A k = some A := by simp [upd]
theorem upd_upd {E : Env} {k : Nat} {A B : Own} : upd (upd E k A) k B = upd E k B := by funext i; by_cases h : i = k <;> simp [upd, h]
theorem upd_id {E : Env} {k : Nat} {A : Own} (h : E k = some A) : upd E k A = E := by funext i; by_cases hi : i = k <;> simp [upd, hi, h]
/-- The state of a walk that began at w0 with the blocks F0 as its own: the pieces of E, apart from one another, all else as it was. -/
structure St (w0 : World) (F0 : List Nat) (w : World) (E : Env) : Prop where
  low : Low w0 F0 w
  own : ∃ Fs : Nat → List Nat, (∀ i A, E i = some A → A.holds w (Fs i) ∧ ∀ g ∈ Fs i, g ∈ F0 ∨ w0.heap.size ≤ g) ∧ ∀ i j A B, i ≠ j → E i = some A → E j = some B → ∀ g ∈ Fs i, g ∉ Fs j

section
variable {w0 w w' : World} {F0 : List Nat} {E : Env}

theorem St.start (w : World) (F : List Nat) : St w F w Env.nil := ⟨Low.refl _ _, fun _ => [], ⟨fun _ _ h => (by cases h), fun _ _ _ _ _ h => (by cases h)⟩⟩

/-- One piece is looked at, and may be exchanged for what has become of it. -/
theorem St.change {A : Own} (H : St w0 F0 w E) (k : Nat) (hk : E k = some A) :
    ∃ F, A.holds w F ∧ (∀ g ∈ F, g ∈ F0 ∨ w0.heap.size ≤ g) ∧ (∀ j B, j ≠ k → E j = some B → ∃ G, B.holds w G ∧ ∀ g ∈ G, g ∉ F) ∧
      ∀ (w' : World) (A' : Own) (F' : List Nat), A'.holds w' F' → Low w F w' → (∀ g ∈ F', g ∈ F ∨ w.heap.size ≤ g) → St w0 F0 w' (upd E k A') := by
  obtain ⟨lo, Fs, h1, h2⟩ := H
  refine ⟨Fs k, (h1 k A hk).1, (h1 k A hk).2, fun j B hj hB => ⟨Fs j, (h1 j B hB).1, h2 j k B A hj hB hk⟩, fun w' A' F' hA' hl hF' => ?_⟩
  have hold : ∀ i B, E i = some B → ∀ g ∈ Fs i, g < w.heap.size := fun i B hB => B.old (h1 i B hB).1
  refine ⟨lo.trans hl (h1 k A hk).2, fun i => if i = k then F' else Fs i, fun i B hB => ?_, fun i j B C hij hB hC g hg => ?_⟩
  · by_cases hi : i = k
    · subst hi
      simp only [upd, if_true, Option.some.injEq] at hB
      subst hB
      simp only [if_true]
      refine ⟨hA', fun g hg => ?_⟩
      rcases hF' g hg with h | h
      · exact (h1 i A hk).2 g h
      · exact .inr (Nat.le_trans lo.size h)
    · simp only [upd, if_neg hi] at hB
      simp only [if_neg hi]
      refine ⟨B.loc (h1 i B hB).1 fun g hg => hl.block g (hold i B hB g hg) (h2 i k B A hi hB hk g hg), (h1 i B hB).2⟩
  · by_cases hi : i = k
    · subst hi
      have hj : j ≠ i := fun e => hij e.symm
      simp only [upd, if_neg hj] at hC
      simp only [if_true] at hg
      simp only [if_neg hj]
      rcases hF' g hg with h | h
      · exact h2 i j A C hij hk hC g h
      · exact fun m => by have := hold j C hC g m; omega
    · simp only [upd, if_neg hi] at hB
      simp only [if_neg hi] at hg
      by_cases hj : j = k
      · subst hj
        simp only [if_true]
        intro m
        rcases hF' g m with h | h
        · exact h2 i j B A hij hB hk g hg h
        · have := hold i B hB g hg; omega
      · simp only [upd, if_neg hj] at hC
        simp only [if_neg hj]
        exact h2 i j B C hij hB hC g hg

theorem St.call (H : St w0 F0 w E) (hb : Below w.heap.size w w') : St w0 F0 w' E := by
  obtain ⟨lo, Fs, h1, h2⟩ := H
  exact ⟨lo.trans (.of_below hb []) (by simp), Fs, fun i B hB => ⟨B.loc (h1 i B hB).1 fun g hg => hb.block g (B.old (h1 i B hB).1 g hg), (h1 i B hB).2⟩, h2⟩
theorem St.drewN (H : St w0 F0 w E) (n : Nat) : St w0 F0 (w.drewN n) E := H.call (bdrewN (Below.refl _ _) n)
theorem St.drew (H : St w0 F0 w E) : St w0 F0 w.drew E := H.call (Below.refl _ _).drew

theorem St.push {A : Own} {F : List Nat} (H : St w0 F0 w E) (k : Nat) (hk : E k = none) (hb : Below w.heap.size w w') (hA : A.holds w' F) (hF : ∀ g ∈ F, w.heap.size ≤ g) : St w0 F0 w' (upd E k A) := by
  obtain ⟨lo, Fs, h1, h2⟩ := H
  have hold : ∀ i B, E i = some B → ∀ g ∈ Fs i, g < w.heap.size := fun i B hB => B.old (h1 i B hB).1
  have hne : ∀ i B, E i = some B → i ≠ k := fun i B hB e => by subst e; rw [hk] at hB; cases hB
  refine ⟨lo.trans (.of_below hb []) (by simp), fun i => if i = k then F else Fs i, fun i B hB => ?_, fun i j B C hij hB hC g hg => ?_⟩
  · by_cases hi : i = k
    · subst hi
      simp only [upd, if_true, Option.some.injEq] at hB
      subst hB
      simp only [if_true]
      exact ⟨hA, fun g hg => .inr (Nat.le_trans lo.size (hF g hg))⟩
    · simp only [upd, if_neg hi] at hB
      simp only [if_neg hi]
      exact ⟨B.loc (h1 i B hB).1 fun g hg => hb.block g (hold i B hB g hg), (h1 i B hB).2⟩
  · by_cases hi : i = k
    · subst hi
      have hj : j ≠ i := fun e => hij e.symm
      simp only [upd, if_neg hj] at hC
      simp only [if_true] at hg
      simp only [if_neg hj]
      exact fun m => by have := hold j C hC g m; have := hF g hg; omega
    · simp only [upd, if_neg hi] at hB
      simp only [if_neg hi] at hg
      by_cases hj : j = k
      · subst hj
        simp only [if_true]
        exact fun m => by have := hold i B hB g hg; have := hF g m; omega
      · simp only [upd, if_neg hj] at hC
        simp only [if_neg hj]
        exact h2 i j B C hij hB hC g hg

/-- fewer pieces are known of -/
theorem St.sub {E' : Env} (H : St w0 F0 w E) (h : ∀ k A, E' k = some A → E k = some A) : St w0 F0 w E' := by
  obtain ⟨lo, Fs, h1, h2⟩ := H
  exact ⟨lo, Fs, fun i A hA => h1 i A (h i A hA), fun i j A B hij hA hB => h2 i j A B hij (h i A hA) (h j B hB)⟩
theorem St.env {E' : Env} (H : St w0 F0 w E) (h : ∀ k, E' k = E k) : St w0 F0 w E' := H.sub fun k A hA => by rw [← h k]; exact hA
theorem St.below {E : Env} (H : St w0 [] w E) : Below w0.heap.size w0 w := H.low.below

/- blocks -/
theorem St.blk {g : Nat} {T : TypeId} {cs : List Value} (H : St w0 F0 w E) (k : Nat) (hk : E k = some (.blk g T cs)) : w.heap[g]? = some (.cells cs.toArray T (0, 0)) := by
  obtain ⟨F, h, -⟩ := H.change k hk
  exact h.1
theorem St.blkIn {g : Nat} {T : TypeId} {cs : List Value} (H : St w0 F0 w E) (k : Nat) (hk : E k = some (.blk g T cs)) : g ∈ F0 ∨ w0.heap.size ≤ g := by
  obtain ⟨F, ⟨-, e⟩, h, -⟩ := H.change k hk
  exact h g (by simp [e])
theorem St.cell {g o : Nat} {T : TypeId} {cs : List Value} {u : Value} (H : St w0 F0 w E) (k : Nat) (hk : E k = some (.blk g T cs)) (hu : cs[o]? = some u) : w.cell? ⟨g, o, none⟩ = some u := by
  rw [cell_of_row w g o _ _ _ (H.blk k hk)]; simpa using hu
theorem St.free {g : Nat} {T : TypeId} {cs : List Value} (H : St w0 F0 w E) (k : Nat) (hk : E k = some (.blk g T cs)) (o : Nat) : w.frozen? ⟨g, o, none⟩ = false := frozen_of_row w g o _ _ (H.blk k hk)
theorem St.lt {g : Nat} {T : TypeId} {cs : List Value} (H : St w0 F0 w E) (k : Nat) (hk : E k = some (.blk g T cs)) : g < w.heap.size := lt_of_heap (H.blk k hk)
theorem St.store {g o : Nat} {T : TypeId} {cs : List Value} {u : Value} (H : St w0 F0 w E) (k : Nat) (hk : E k = some (.blk g T cs)) : St w0 F0 (w.setCell ⟨g, o, none⟩ u) (upd E k (.blk g T (cs.set o u))) := by
  obtain ⟨F, ⟨h, e⟩, -, -, hc⟩ := H.change k hk
  subst e
  refine hc _ _ [g] ⟨?_, rfl⟩ (Low.setCell w ⟨g, o, none⟩ u) (by simp)
  simp only [World.setCell, Array.getElem?_modify, if_true, h]
  simp
theorem St.alloc (H : St w0 F0 w E) (k : Nat) (hk : E k = none) (cs : Array Value) (T : TypeId) : St w0 F0 (w.alloc (.cells cs T)) (upd E k (.blk w.heap.size T cs.toList)) :=
  H.push k hk ((Below.refl _ _).alloc (Nat.le_refl _) _) (F := [w.heap.size]) ⟨by rw [heap_alloc_new], rfl⟩ (by simp)
theorem St.allocAt (H : St w0 F0 w E) (k : Nat) (hk : E k = none) (b : Nat) (hb : b = w.heap.size) (cs : Array Value) (T : TypeId) : St w0 F0 (w.alloc (.cells cs T)) (upd E k (.blk b T cs.toList)) := by
  subst hb; exact H.alloc k hk cs T
theorem St.ne {g g' : Nat} {T T' : TypeId} {cs cs' : List Value} (H : St w0 F0 w E) (k k' : Nat) (hk : E k = some (.blk g T cs)) (hk' : E k' = some (.blk g' T' cs')) (hne : k ≠ k') : g ≠ g' := by
  obtain ⟨F, ⟨-, e⟩, -, hd, -⟩ := H.change k hk
  obtain ⟨G, ⟨-, e'⟩, hd'⟩ := hd k' _ (fun e => hne e.symm) hk'
  subst e e'
  intro h
  exact hd' g' (by simp) (by simp [h])

/- rows -/
variable {e : TypeId} {size n : Nat} {v : Value} {xs : List Value}
theorem St.row (H : St w0 F0 w E) (k : Nat) (hk : E k = some (.row e size v n xs)) : w.ownsRow 0 e size v n xs := by
  obtain ⟨F, h, -⟩ := H.change k hk
  exact h.1
theorem St.rd {A : Option Addr} {c : Nat} (H : St w0 F0 w E) (k : Nat) (hk : E k = some (.row e size (.slice A n c) n xs)) : Rd w size A n xs := Rd.of_own (H.row k hk)
/-- a slice that is read only, and is none of the own ones -/
def RdF (w : World) (F : List Nat) (size : Nat) (A : Option Addr) (n : Nat) (xs : List Value) : Prop := Rd w size A n xs ∧ (0 < n → ∀ ad, A = some ad → ad.block ∉ F)
theorem Rd.rdF {A : Option Addr} (h : Rd w size A n xs) : RdF w [] size A n xs := ⟨h, fun _ _ _ => by simp⟩
theorem RdF.keep {A : Option Addr} {F : List Nat} (h : RdF w0 F size A n xs) (lo : Low w0 F w) : RdF w F size A n xs := by
  refine ⟨⟨h.1.1, fun hn => ?_⟩, h.2⟩
  obtain ⟨ad, rfl, hb, hc⟩ := h.1.2 hn
  refine ⟨ad, rfl, Nat.lt_of_lt_of_le hb lo.size, fun j u hu => ?_⟩
  rw [← hc j u hu]
  exact World.cell?_of_block (lo.block _ (by rw [block_of_add]; exact hb) (by rw [block_of_add]; exact h.2 hn ad rfl))
theorem St.arg {A : Option Addr} (H : St w0 F0 w E) (h : RdF w0 F0 size A n xs) : Rd w size A n xs := (h.keep H.low).1
theorem St.arg0 {A : Option Addr} {E : Env} (H : St w0 [] w E) (h : Rd w0 size A n xs) : Rd w size A n xs := (h.rdF.keep H.low).1

theorem St.pushRow (H : St w0 F0 w E) (k : Nat) (hk : E k = none) (hb : Below w.heap.size w w') (ho : w'.ownsRow w.heap.size e size v n xs) : St w0 F0 w' (upd E k (.row e size v n xs)) :=
  H.push k hk hb (A := .row e size v n xs) ⟨ownsRow_base ho (by simp), rfl⟩ (fun g hg => by
    cases hv : v.ownBlock with
    | none => rw [hv] at hg; simp at hg
    | some g' => rw [hv] at hg; simp at hg; subst hg; exact (World.ownsRow.lt ho _ hv).1)
theorem St.nilRow (H : St w0 F0 w E) (k : Nat) (hk : E k = none) (e : TypeId) (size : Nat) : St w0 F0 w (upd E k (.row e size (.slice none 0 0) 0 [])) :=
  H.pushRow k hk (Below.refl _ _) (World.ownsRow_nil _ _ _ _)
/-- an append (or another law that ends in grownBy) has made of the row another one -/
theorem St.grow {v' : Value} {n' : Nat} {xs' : List Value} (H : St w0 F0 w E) (k : Nat) (hk : E k = some (.row e size v n xs)) (ho : w'.ownsRow 0 e size v' n' xs') (hg : w.grownBy w' v.ownBlock)
    (hat : v'.ownBlock = v.ownBlock ∨ v'.ownBlock = some w.heap.size) : St w0 F0 w' (upd E k (.row e size v' n' xs')) := by
  obtain ⟨F, ⟨h, eF⟩, -, -, hc⟩ := H.change k hk
  subst eF
  refine hc _ _ v'.ownBlock.toList ⟨ho, rfl⟩ (Low.of_grown hg) (fun g hm => ?_)
  rcases hat with h1 | h1
  · rw [h1] at hm; exact .inl hm
  · rw [h1] at hm; simp at hm; subst hm; exact .inr (Nat.le_refl _)
theorem St.rowStore {g c o : Nat} {u : Value} (H : St w0 F0 w E) (k : Nat) (hk : E k = some (.row e size (.slice (some ⟨g, 0, none⟩) n c) n xs)) : St w0 F0 (w.setCell ⟨g, o, none⟩ u) (upd E k (.row e size (.slice (some ⟨g, 0, none⟩) n c) n (xs.set o u))) := by
  have hs := World.ownsRow.stored (H.row k hk) o u
  exact H.grow k hk hs.1 hs.2 (.inl rfl)

/-- Two pieces become one. -/
theorem St.join {A B : Own} (H : St w0 F0 w E) (i j : Nat) (hij : i ≠ j) (hi : E i = some A) (hj : E j = some B) : St w0 F0 w (upd (del E j) i (.sep A B)) := by
  obtain ⟨lo, Fs, h1, h2⟩ := H
  refine ⟨lo, fun m => if m = i then Fs i ++ Fs j else Fs m, fun m C hC => ?_, fun m l C D hml hC hD g hg => ?_⟩
  · by_cases hm : m = i
    · subst hm
      simp only [upd, if_true, Option.some.injEq] at hC
      subst hC
      simp only [if_true]
      exact ⟨⟨Fs m, Fs j, rfl, (h1 m A hi).1, (h1 j B hj).1, h2 m j A B hij hi hj⟩, fun g hg => by
        rw [List.mem_append] at hg; exact hg.elim ((h1 m A hi).2 g) ((h1 j B hj).2 g)⟩
    · have hmj : m ≠ j := fun e => by subst e; simp [upd, del, hm] at hC
      simp only [upd, del, if_neg hm, if_neg hmj] at hC
      simp only [if_neg hm]
      exact h1 m C hC
  · by_cases hm : m = i
    · have hl : l ≠ i := fun e => hml (hm.trans e.symm)
      have hlj : l ≠ j := fun e => by subst e; simp [upd, del, hl] at hD
      simp only [upd, del, if_neg hl, if_neg hlj] at hD
      subst hm
      simp only [if_true, List.mem_append] at hg
      simp only [if_neg hl]
      exact hg.elim (h2 m l A D (fun e => hl e.symm) hi hD g) (h2 j l B D (fun e => hlj e.symm) hj hD g)
    · have hmj : m ≠ j := fun e => by subst e; simp [upd, del, hm] at hC
      simp only [upd, del, if_neg hm, if_neg hmj] at hC
      simp only [if_neg hm] at hg
      by_cases hl : l = i
      · subst hl
        simp only [if_true, List.mem_append]
        exact fun h => h.elim (h2 m l C A hm hC hi g hg) (h2 m j C B hmj hC hj g hg)
      · have hlj : l ≠ j := fun e => by subst e; simp [upd, del, hl] at hD
        simp only [upd, del, if_neg hl, if_neg hlj] at hD
        simp only [if_neg hl]
        exact h2 m l C D hml hC hD g hg
/-- One piece that is two. -/
theorem St.part {A B : Own} (H : St w0 F0 w E) (i j : Nat) (hij : i ≠ j) (hi : E i = some (.sep A B)) (hj : E j = none) : St w0 F0 w (upd (upd E i A) j B) := by
  obtain ⟨lo, Fs, h1, h2⟩ := H
  obtain ⟨⟨G, K, eF, ha, hb, hd⟩, hlo⟩ := h1 i _ hi
  have hG : ∀ g ∈ G, g ∈ Fs i := fun g h => by rw [eF]; simp [h]
  have hK : ∀ g ∈ K, g ∈ Fs i := fun g h => by rw [eF]; simp [h]
  refine ⟨lo, fun m => if m = j then K else if m = i then G else Fs m, fun m C hC => ?_, fun m l C D hml hC hD g hg => ?_⟩
  · by_cases hmj : m = j
    · subst hmj
      simp only [upd, if_true, Option.some.injEq] at hC
      subst hC
      simp only [if_true]
      exact ⟨hb, fun g hg => hlo g (hK g hg)⟩
    · by_cases hmi : m = i
      · subst hmi
        simp only [upd, if_neg hmj, if_true, Option.some.injEq] at hC
        subst hC
        simp only [if_neg hmj, if_true]
        exact ⟨ha, fun g hg => hlo g (hG g hg)⟩
      · simp only [upd, if_neg hmj, if_neg hmi] at hC
        simp only [if_neg hmj, if_neg hmi]
        exact h1 m C hC
  · have key : ∀ m C, m ≠ j → m ≠ i → upd (upd E i A) j B m = some C → E m = some C := fun m C h h' hC => by simpa only [upd, if_neg h, if_neg h'] using hC
    by_cases hmj : m = j
    · have hlj : l ≠ j := fun e => hml (hmj.trans e.symm)
      simp only [hmj, if_true] at hg
      simp only [if_neg hlj]
      by_cases hli : l = i
      · simp only [hli, if_true]; exact fun h => hd g h hg
      · simp only [if_neg hli]; exact h2 i l _ D (fun e => hli e.symm) hi (key l D hlj hli hD) g (hK g hg)
    · by_cases hmi : m = i
      · have hli : l ≠ i := fun e => hml (hmi.trans e.symm)
        simp only [hmi, if_neg hij, if_true] at hg
        by_cases hlj : l = j
        · simp only [hlj, if_true]; exact hd g hg
        · simp only [if_neg hlj, if_neg hli]; exact h2 i l _ D (fun e => hli e.symm) hi (key l D hlj hli hD) g (hG g hg)
      · simp only [if_neg hmj, if_neg hmi] at hg
        have hCm := key m C hmj hmi hC
        by_cases hlj : l = j
        · simp only [hlj, if_true]; exact fun h => h2 m i C _ hmi hCm hi g hg (hK g h)
        · by_cases hli : l = i
          · show g ∉ (if l = j then K else if l = i then G else Fs l); rw [if_neg hlj, if_pos hli]; exact fun h => h2 m i C _ hmi hCm hi g hg (hG g h)
          · simp only [if_neg hlj, if_neg hli]; exact h2 m l C D hml hCm (key l D hlj hli hD) g hg
theorem rd_new (w : World) (us : List Value) (t : TypeId) (size : Nat) (h : us.length = size) : Rd ((w.alloc (.cells us.toArray t)).drew) size (some ⟨w.heap.size, 0, none⟩) 1 us :=
  ⟨by omega, fun _ => ⟨_, rfl, by simp, fun j u hu => by
    rw [Addr.add_mid, Nat.zero_add]
    show (w.alloc (.cells us.toArray t)).cell? _ = _
    rw [World.cell?_alloc_at _ _ _ _ rfl]; simpa using hu⟩⟩
theorem Rd.flat {w : World} {size n : Nat} {A : Option Addr} {xs : List Value} (h : Rd w size A n xs) (hn : 0 < n) (hs : 0 < size) : ∃ b o, A = some ⟨b, o, none⟩ ∧ b < w.heap.size ∧ ∀ j u, xs[j]? = some u → w.cell? ⟨b, o + j, none⟩ = some u := by
  obtain ⟨ad, rfl, hb, hc⟩ := h.2 hn
  have hl : 0 < xs.length := by rw [h.1]; exact Nat.mul_pos hn hs
  have h0 := hc 0 _ (List.getElem?_eq_getElem hl)
  obtain ⟨b, o, sp⟩ := ad
  cases sp with
  | some s => simp [Addr.add, World.cell?] at h0; split at h0 <;> simp at h0
  | none => exact ⟨b, o, rfl, hb, fun j u hu => by rw [← hc j u hu, Addr.add_mid]⟩
/- a walk of its own over one piece, or two -/
def one (A : Own) : Env := upd Env.nil 0 A
def two (A B : Own) : Env := upd (upd Env.nil 0 A) 1 B
theorem St.out {A : Own} {F : List Nat} (H : St w F w' E) (k : Nat) (hk : E k = some A) : ∃ F', A.holds w' F' ∧ Low w F w' ∧ ∀ g ∈ F', g ∈ F ∨ w.heap.size ≤ g := by
  obtain ⟨F', h1, h2, -⟩ := H.change k hk
  exact ⟨F', h1, H.low, h2⟩
theorem St.in1 {A : Own} {F : List Nat} (h : A.holds w F) : St w F w (one A) := by
  refine ⟨Low.refl _ _, fun _ => F, ⟨fun i B hB => ?_, fun i j B C hij hB hC => ?_⟩⟩
  · by_cases hi : i = 0
    · subst hi; simp [one, upd] at hB; subst hB; exact ⟨h, fun g hg => .inl hg⟩
    · simp [one, upd, hi, Env.nil] at hB
  · have h1 : i = 0 := by
      apply Classical.byContradiction; intro hi; simp [one, upd, hi, Env.nil] at hB
    have h2 : j = 0 := by
      apply Classical.byContradiction; intro hj; simp [one, upd, hj, Env.nil] at hC
    omega
theorem St.frame1 {A : Own} (H : St w0 F0 w E) (i : Nat) (hi : E i = some A) :
    ∃ F, St w F w (one A) ∧ (∀ (size : Nat) (A : Option Addr) (n : Nat) (xs : List Value), RdF w F0 size A n xs → (∀ ad, A = some ad → ad.block < w0.heap.size) → RdF w F size A n xs) ∧
      (∀ j B, j ≠ i → E j = some B → ∃ G, B.holds w G ∧ ∀ g ∈ G, g ∉ F) ∧ ∀ (w' : World) (A' : Own), St w F w' (one A') → St w0 F0 w' (upd E i A') := by
  obtain ⟨F, h1, h2, h3, h4⟩ := H.change i hi
  refine ⟨F, St.in1 h1, fun size A n xs hr hlt => ⟨hr.1, fun hn ad e m => ?_⟩, h3, fun w' A' H' => ?_⟩
  · rcases h2 _ m with h | h
    · exact hr.2 hn ad e h
    · have := hlt ad e; omega
  · obtain ⟨F', a, b, c⟩ := H'.out 0 rfl
    exact h4 w' A' F' a b c
theorem St.frame2 {A B : Own} (H : St w0 F0 w E) (i j : Nat) (hij : i ≠ j) (hi : E i = some A) (hj : E j = some B) :
    ∃ F, St w F w (two A B) ∧ (∀ (size : Nat) (A : Option Addr) (n : Nat) (xs : List Value), RdF w F0 size A n xs → (∀ ad, A = some ad → ad.block < w0.heap.size) → RdF w F size A n xs) ∧
      (∀ k C, k ≠ i → k ≠ j → E k = some C → ∃ G, C.holds w G ∧ ∀ g ∈ G, g ∉ F) ∧ ∀ (w' : World) (A' B' : Own), St w F w' (two A' B') → St w0 F0 w' (upd (upd E i A') j B') := by
  obtain ⟨F, H1, h2, h3, h4⟩ := (H.join i j hij hi hj).frame1 (A := .sep A B) i (by simp [upd])
  have hne : j ≠ i := fun e => hij e.symm
  refine ⟨F, ((H1.part 0 1 (by omega) rfl rfl).env fun k => ?_), h2, fun k C hki hkj hC => h3 k C hki (by simp only [upd, del, if_neg hki, if_neg hkj]; exact hC), fun w' A' B' H' => ?_⟩
  · simp only [two, one, upd]; split <;> (try split) <;> rfl
  · have H2 := h4 w' (.sep A' B') ((H'.join 0 1 (by omega) rfl rfl).env fun k => by
      simp only [two, one, upd, del, Env.nil]
      by_cases h0 : k = 0
      · simp [h0]
      · by_cases h1 : k = 1
        · simp [h1]
        · simp [h0, h1])
    refine (H2.part (A := A') (B := B') i j hij (by simp [upd]) (by simp [upd, del, hne])).env fun k => ?_
    simp only [upd, del]
    by_cases hk : k = j
    · simp [hk]
    · by_cases hk' : k = i <;> simp [hk, hk']
theorem St.openEx {α : Type} {A : α → Own} (H : St w0 F0 w E) (i : Nat) (hi : E i = some (.ex A)) : ∃ a, St w0 F0 w (upd E i (A a)) := by
  obtain ⟨F, ⟨a, h⟩, -, -, h4⟩ := H.change i hi
  exact ⟨a, h4 w (A a) F h (Low.refl _ _) fun g hg => .inl hg⟩
theorem St.shutEx {α : Type} {A : α → Own} (a : α) (H : St w0 F0 w E) (i : Nat) (hi : E i = some (A a)) : St w0 F0 w (upd E i (.ex A)) := by
  obtain ⟨F, h, -, -, h4⟩ := H.change i hi
  exact h4 w (.ex A) F ⟨a, h⟩ (Low.refl _ _) fun g hg => .inl hg
theorem St.openFact {p : Prop} {A : Own} (H : St w0 F0 w E) (i : Nat) (hi : E i = some (.fact p A)) : p ∧ St w0 F0 w (upd E i A) := by
  obtain ⟨F, ⟨a, h⟩, -, -, h4⟩ := H.change i hi
  exact ⟨a, h4 w A F h (Low.refl _ _) fun g hg => .inl hg⟩
theorem St.shutFact {p : Prop} {A : Own} (a : p) (H : St w0 F0 w E) (i : Nat) (hi : E i = some A) : St w0 F0 w (upd E i (.fact p A)) := by
  obtain ⟨F, h, -, -, h4⟩ := H.change i hi
  exact h4 w (.fact p A) F ⟨a, h⟩ (Low.refl _ _) fun g hg => .inl hg
theorem St.nothing (H : St w0 F0 w E) (k : Nat) (hk : E k = none) : St w0 F0 w (upd E k .emp) := H.push k hk (Below.refl _ _) (A := .emp) rfl (by simp)
/-- pieces by their places in a list -/
def lay (L : List Own) : Env := fun i => L[i]?
theorem St.upd_mk {L : List Own} {k : Nat} {A : Own} (H : St w0 F0 w (upd (lay L) k A)) (h : k < L.length) : St w0 F0 w (lay (L.set k A)) :=
  H.env fun i => by
    simp only [lay, upd]
    by_cases hi : i = k
    · subst hi; simp [h]
    · rw [List.getElem?_set_ne (fun e => hi e.symm), if_neg hi]
theorem St.push_mk {L : List Own} {k : Nat} {A : Own} (H : St w0 F0 w (upd (lay L) k A)) (h : k = L.length) : St w0 F0 w (lay (L ++ [A])) :=
  H.env fun i => by
    subst h
    simp only [lay, upd]
    by_cases hi : i = L.length
    · subst hi; simp
    · rw [if_neg hi]
      rcases Nat.lt_or_ge i L.length with h1 | h1
      · rw [List.getElem?_append_left h1]
      · rw [List.getElem?_eq_none (by simp; omega), List.getElem?_eq_none h1]
theorem St.as1 {A : Own} (H : St w0 F0 w (one A)) : St w0 F0 w (lay [A]) := H.env fun i => by
  cases i with
  | zero => rfl
  | succ i => simp [lay, one, upd, Env.nil]
theorem St.as2 {A B : Own} (H : St w0 F0 w (two A B)) : St w0 F0 w (lay [A, B]) := H.env fun i => by
  match i with
  | 0 => rfl
  | 1 => rfl
  | i + 2 => simp [lay, two, upd, Env.nil]
theorem St.to1 {L : List Own} {A : Own} (H : St w0 F0 w (lay L)) (h : L[0]? = some A) : St w0 F0 w (one A) := H.sub fun k B hB => by
  by_cases hk : k = 0
  · subst hk; simp only [one, upd, if_true] at hB; rw [← hB]; exact h
  · simp [one, upd, hk, Env.nil] at hB
theorem St.to2 {L : List Own} {A B : Own} (H : St w0 F0 w (lay L)) (h : L[0]? = some A) (h' : L[1]? = some B) : St w0 F0 w (two A B) := H.sub fun k C hC => by
  match k with
  | 0 => rw [show two A B 0 = some A from rfl] at hC; rw [← hC]; exact h
  | 1 => rw [show two A B 1 = some B from rfl] at hC; rw [← hC]; exact h'
  | k + 2 => simp [two, upd, Env.nil] at hC
theorem St.start_lay (w : World) (F : List Nat) : St w F w (lay []) := (St.start w F).env fun i => by simp [lay, Env.nil]
theorem St.front {L : List Own} (n : Nat) (H : St w0 F0 w (lay L)) : St w0 F0 w (lay (L.take n)) := H.sub fun k A h => by
  simp only [lay, List.getElem?_take] at h ⊢
  split at h
  · exact h
  · cases h
theorem absorb_wp {P : Program} {c : Code} {Q : Exit → Act → World → Prop} {a : Act} (H : St w0 F0 w E) (h : ∀ w', St w0 F0 w' E → c.wp P Q a w') : c.wp P Q a w := h w H
theorem absorb_list {P : Program} {ops : Array Oper} {l : List Oper} {Q : Exit → Act → World → Prop} {a : Act} (H : St w0 F0 w E) (h : ∀ w', St w0 F0 w' E → wpList P ops Q l a w') : wpList P ops Q l a w := h w H
theorem absorb_calls {P : Program} {f : FuncId} {args : Array Value} {R : Ending → World → Prop} (H : St w0 F0 w E) (h : ∀ w', St w0 F0 w' E → Calls P f args w' R) : Calls P f args w R := h w H
/-- a value of all its cells goes into a block -/
theorem St.there {g : Nat} {T : TypeId} {cs : List Value} (H : St w0 F0 w E) (k : Nat) (hk : E k = some (.blk g T cs)) : w.there g 0 cs.length := fun j hj => by
  rw [Nat.zero_add]
  exact ⟨by rw [H.cell k hk (List.getElem?_eq_getElem hj)]; rfl, H.free k hk j⟩
theorem St.range {g : Nat} {T : TypeId} {cs : List Value} (H : St w0 F0 w E) (k : Nat) (hk : E k = some (.blk g T cs)) : w.rangeAt g 0 cs := fun j v hv => by
  rw [Nat.zero_add]; exact H.cell k hk hv
theorem setCells_heap (vs : List Value) : ∀ (w : World) (g o : Nat) (T : TypeId) (C : List Value), w.heap[g]? = some (.cells C.toArray T (0, 0)) → o + vs.length ≤ C.length →
    (w.setCells g o vs).heap[g]? = some (.cells (C.take o ++ vs ++ C.drop (o + vs.length)).toArray T (0, 0)) := by
  induction vs with
  | nil => intro w g o T C h hl; simpa [World.setCells] using h
  | cons v vs ih =>
    intro w g o T C h hl
    simp only [List.length_cons] at hl
    have h1 := heap_setCell_same w g o C.toArray T v h
    have h2 := ih (w.setCell ⟨g, o, none⟩ v) g (o + 1) T (C.set o v) (by simpa using h1) (by simp; omega)
    show ((w.setCell ⟨g, o, none⟩ v).setCells g (o + 1) vs).heap[g]? = _
    rw [h2]
    congr 3
    rw [List.take_add_one, List.take_set_of_le (by omega), List.getElem?_set_self (by omega), List.drop_set_of_lt (by omega)]
    simp [Nat.add_assoc, Nat.add_comm 1]
theorem setCells_low (vs : List Value) : ∀ (w : World) (g o : Nat), Low w [g] (w.setCells g o vs) := by
  induction vs with
  | nil => intro w g o; exact Low.refl _ _
  | cons v vs ih => intro w g o; exact (Low.setCell w ⟨g, o, none⟩ v).trans (ih _ g (o + 1)) (by simp)
theorem St.storeAll {g : Nat} {T : TypeId} {cs vs : List Value} (H : St w0 F0 w E) (k : Nat) (hk : E k = some (.blk g T cs)) (hl : vs.length = cs.length) : St w0 F0 (w.setCells g 0 vs) (upd E k (.blk g T vs)) := by
  obtain ⟨F, ⟨h, e⟩, -, -, hc⟩ := H.change k hk
  subst e
  refine hc _ _ [g] ⟨?_, rfl⟩ (setCells_low vs w g 0) (by simp)
  rw [setCells_heap vs w g 0 T cs h (by omega)]
  simp [hl]
end

section
variable {w0 w : World} {F0 : List Nat} {E : Env}
theorem St.setRow {g : Nat} {T : TypeId} {cs vs : List Value} (H : St w0 F0 w E) (k : Nat) (hk : E k = some (.blk g T cs)) : St w0 F0 (w.setRow g vs.toArray) (upd E k (.blk g T vs)) := by
  obtain ⟨F, ⟨h, e⟩, -, -, hc⟩ := H.change k hk
  subst e
  exact hc _ _ [g] ⟨setRow_heap w g _ _ T _ h, rfl⟩ ⟨rfl, rfl, rfl, by simp [World.setRow], fun i hi hn => setRow_other w g i _ (by simpa using hn)⟩ (by simp)

theorem wp_copy_st {P : Program} {o : Oper} {a : Act} {K : Act → World → Prop} {Q : Exit → Act → World → Prop} (d s : Operand) (dT sT : TypeId)
    (ho : o.op = .call { callee := .builtin .copy, args := #[d, s], argTypes := #[dT, sT] }) (elem : TypeId) (hu : P.underlying dT = some (.slice elem)) (hsz : (P.info? elem).map (·.size) = some 1)
    (dp sp : Option Addr) (dLen dCap sLen sCap : Nat) (hd : a.eval d = .slice dp dLen dCap) (hs : a.eval s = .slice sp sLen sCap)
    (H : St w0 F0 w E) (k g off : Nat) (T : TypeId) (cur : List Value) (hk : E k = some (.blk g T cur)) (cs : List Value) (hn : cs.length = Nat.min sLen dLen)
    (hpos : 0 < cs.length → dp = some ⟨g, off, none⟩ ∧ ∃ ad, sp = some ad ∧ ∀ j v, cs[j]? = some v → w.cell? (ad.add j) = some v)
    (hfit : off + cs.length ≤ cur.length) (h1 : ∀ v ∈ cs, v.oneCell' = true)
    (h : ∀ w', St w0 F0 w' (upd E k (.blk g T (splice cur off cs))) → K (a.put o.dst (.int .i64 (cs.length : Int))) w') : o.wp P a w K Q := by
  by_cases h0 : cs.length = 0
  · obtain rfl : cs = [] := List.eq_nil_of_length_eq_zero h0
    have hrun := run_copy_none (P := P) w dT sT o.type elem dp sp dLen dCap sLen sCap hu hsz (by simpa using hn.symm)
    unfold Oper.wp
    simp [execOp, ho, resolve, invoke, builtin, hd, hs, hrun, Result.andThen]
    have h2 := h w (by rw [show splice cur off [] = cur from by simp [splice], upd_id hk]; exact H)
    exact h2
  · obtain ⟨rfl, ad, rfl, hsrc⟩ := hpos (by omega)
    have hrun := run_copy_row (P := P) w dT sT o.type elem g off dLen dCap ad sLen sCap cur.toArray T cs hu hsz (H.blk k hk) hn hsrc (by simpa using hfit) h1
    unfold Oper.wp
    simp [execOp, ho, resolve, invoke, builtin, hd, hs, hrun, Result.andThen]
    have h2 := h _ (H.setRow (vs := splice cur off cs) k hk)
    rw [show splice cur off cs = cur.take off ++ (cs ++ cur.drop (off + cs.length)) from rfl] at h2

    exact h2
theorem wpList_copy_st {P : Program} {ops : Array Oper} {rest : List Oper} {o : Oper} {a : Act} {Q : Exit → Act → World → Prop} (hgd : o.guard = none) (d s : Operand) (dT sT : TypeId)
    (ho : o.op = .call { callee := .builtin .copy, args := #[d, s], argTypes := #[dT, sT] }) (elem : TypeId) (hu : P.underlying dT = some (.slice elem)) (hsz : (P.info? elem).map (·.size) = some 1)
    (dp sp : Option Addr) (dLen dCap sLen sCap : Nat) (hd : a.eval d = .slice dp dLen dCap) (hs : a.eval s = .slice sp sLen sCap)
    (H : St w0 F0 w E) (k g off : Nat) (T : TypeId) (cur : List Value) (hk : E k = some (.blk g T cur)) (cs : List Value) (hn : cs.length = Nat.min sLen dLen)
    (hpos : 0 < cs.length → dp = some ⟨g, off, none⟩ ∧ ∃ ad, sp = some ad ∧ ∀ j v, cs[j]? = some v → w.cell? (ad.add j) = some v)
    (hfit : off + cs.length ≤ cur.length) (h1 : ∀ v ∈ cs, v.oneCell' = true)
    (h : ∀ w', St w0 F0 w' (upd E k (.blk g T (splice cur off cs))) → wpList P ops Q rest (a.put o.dst (.int .i64 (cs.length : Int))) w') : wpList P ops Q (o :: rest) a w :=
  wpList_plain hgd fun K hK => wp_copy_st d s dT sT ho elem hu hsz dp sp dLen dCap sLen sCap hd hs H k g off T cur hk cs hn hpos hfit h1 fun w' h' => hK _ _ (h w' h')
theorem step_copy_st {P : Program} {ops : Array Oper} {o : Oper} {a : Act} {K : Act → World → Prop} {Q : Exit → Act → World → Prop} {X : Prop} (hgd : o.guard = none) (d s : Operand) (dT sT : TypeId)
    (ho : o.op = .call { callee := .builtin .copy, args := #[d, s], argTypes := #[dT, sT] }) (elem : TypeId) (hu : P.underlying dT = some (.slice elem)) (hsz : (P.info? elem).map (·.size) = some 1)
    (dp sp : Option Addr) (dLen dCap sLen sCap : Nat) (hd : a.eval d = .slice dp dLen dCap) (hs : a.eval s = .slice sp sLen sCap)
    (H : St w0 F0 w E) (k g off : Nat) (T : TypeId) (cur : List Value) (hk : E k = some (.blk g T cur)) (cs : List Value) (hn : cs.length = Nat.min sLen dLen)
    (hpos : 0 < cs.length → dp = some ⟨g, off, none⟩ ∧ ∃ ad, sp = some ad ∧ ∀ j v, cs[j]? = some v → w.cell? (ad.add j) = some v)
    (hfit : off + cs.length ≤ cur.length) (h1 : ∀ v ∈ cs, v.oneCell' = true)
    (h : ∀ w', St w0 F0 w' (upd E k (.blk g T (splice cur off cs))) → K (a.put o.dst (.int .i64 (cs.length : Int))) w') :
    if Region.wanted o (yielded ops a.tmps) = true then Oper.wp P o a w K Q else X := by
  rw [if_pos (by simp [Region.wanted, hgd])]
  exact wp_copy_st d s dT sT ho elem hu hsz dp sp dLen dCap sLen sCap hd hs H k g off T cur hk cs hn hpos hfit h1 h
end
theorem run_index_agg {P : Program} (ty e : TypeId) (len : Nat) (cs : Array Value) (k : Nat) (v : Value) (ht : P.underlying ty = some (.array len e)) (hs : (P.info? e).map (·.size) = some 1) (ha : ∀ w, (isAgg e).run P w = .ok false w) (hk : k < len) (hv : cs[k]? = some v) (w : World) :
    (Instr.index ty (.agg cs) (.int .i64 (k : Int))).run P w = .ok v w := by
  cases hi : P.info? e with
  | none => simp [hi] at hs
  | some i =>
    have h1 : i.size = 1 := by simpa [hi] using hs
    unfold Instr.index
    simp [asIntOf, run_underlying ht, hk, sizeOf, typeInfo, hi, h1, part, ha, hv]
end Go.Proofs.Ythoopaknldkclaa

namespace Go.Proofs.Ythoopaknldkclaa
open Go.RowKit
set_option linter.unusedVariables false

section
variable {α : Type} {f : α → List Value} {s : Nat}
theorem flat_length (hf : ∀ a, (f a).length = s) (l : List α) : (l.flatMap f).length = l.length * s := by
  induction l with
  | nil => simp
  | cons a l ih => rw [List.flatMap_cons, List.length_append, ih, hf, List.length_cons, Nat.add_mul]; omega
theorem flat_get (hf : ∀ a, (f a).length = s) (l : List α) (i j : Nat) (a : α) (hi : l[i]? = some a) (hj : j < s) : (l.flatMap f)[i * s + j]? = (f a)[j]? := by
  induction l generalizing i with
  | nil => simp at hi
  | cons b l ih =>
    rw [List.flatMap_cons]
    cases i with
    | zero =>
      simp at hi; subst hi
      rw [List.getElem?_append_left (by rw [hf]; omega)]; simp
    | succ i =>
      rw [List.getElem?_append_right (by rw [hf, Nat.add_mul]; omega), hf, show (i + 1) * s + j - s = i * s + j by rw [Nat.add_mul]; omega]
      exact ih i (by simpa using hi)
theorem flat_one {Q : Value → Prop} (h : ∀ a, ∀ u ∈ f a, Q u) (l : List α) : ∀ u ∈ l.flatMap f, Q u := by
  intro u hu
  obtain ⟨a, -, ha⟩ := List.mem_flatMap.1 hu
  exact h a u ha
theorem Rd.takeF {w : World} {A : Option Addr} {n k : Nat} {l : List α} (hf : ∀ a, (f a).length = s) (hs : 0 < s) (h : Rd w s A n (l.flatMap f)) (hk : k ≤ n) : Rd w s A k ((l.take k).flatMap f) := by
  have hl := h.1
  rw [flat_length hf] at hl
  have hln : l.length = n := Nat.eq_of_mul_eq_mul_right hs hl
  refine ⟨by rw [flat_length hf, List.length_take, hln, Nat.min_eq_left hk], fun hn => ?_⟩
  obtain ⟨ad, rfl, hb, hc⟩ := h.2 (by omega)
  refine ⟨ad, rfl, hb, fun j u hu => hc j u ?_⟩
  have hj : j < ((l.take k).flatMap f).length := (List.getElem?_eq_some_iff.1 hu).1
  rw [← List.take_append_drop k l, List.flatMap_append, List.getElem?_append_left hj]
  exact hu
end
/-- a row of the call's own, at its end -/
theorem St.ownRow {w0 w : World} {E : Env} {e : TypeId} {size n : Nat} {v : Value} {xs : List Value} (H : St w0 [] w E) (k : Nat) (hk : E k = some (.row e size v n xs)) : w.ownsRow w0.heap.size e size v n xs := by
  obtain ⟨F, ⟨h1, h2⟩, -, h4⟩ := H.out k hk
  refine ownsRow_base h1 fun g hg => ?_
  rcases h4 g (by rw [h2]; exact hg) with h | h
  · simp at h
  · exact h
theorem row_form {w : World} {e : TypeId} {size n : Nat} {v : Value} {xs : List Value} (h : w.ownsRow 0 e size v n xs) : ∃ A c, v = .slice A n c ∧ n ≤ c ∧ (0 < n → ∃ g, A = some ⟨g, 0, none⟩ ∧ g < w.heap.size) := by
  rcases h.2 with ⟨rfl, rfl⟩ | ⟨g, cap, cur, rfl, _, hg, hc, _⟩
  · exact ⟨_, _, rfl, by omega, fun h => by omega⟩
  · exact ⟨_, _, rfl, hc, fun _ => ⟨g, rfl, lt_of_heap hg⟩⟩
theorem rd_new0 (w : World) (us : List Value) (t : TypeId) (size : Nat) (h : us.length = size) : Rd (w.alloc (.cells us.toArray t)) size (some ⟨w.heap.size, 0, none⟩) 1 us :=
  ⟨by omega, fun _ => ⟨_, rfl, by simp, fun j u hu => by
    rw [Addr.add_mid, Nat.zero_add, World.cell?_alloc_at _ _ _ _ rfl]; simpa using hu⟩⟩
/-- some of the pieces, under other numbers -/
theorem St.pick {w0 w : World} {F0 : List Nat} {E E' : Env} (H : St w0 F0 w E) (f : Nat → Nat) (hf : ∀ i j, f i = f j → i = j) (h : ∀ k A, E' k = some A → E (f k) = some A) : St w0 F0 w E' := by
  obtain ⟨lo, Fs, h1, h2⟩ := H
  exact ⟨lo, fun k => Fs (f k), fun i A hA => h1 (f i) A (h i A hA), fun i j A B hij hA hB => h2 (f i) (f j) A B (fun e => hij (hf i j e)) (h i A hA) (h j B hB)⟩
/-- what a call has made, beside what there was -/
theorem St.also {w0 w w' : World} {F0 : List Nat} {L1 L2 : List Own} (H : St w0 F0 w (lay L1)) (HN : St w [] w' (lay L2)) : St w0 F0 w' (lay (L1 ++ L2)) := by
  obtain ⟨lo, Fs, h1, h2⟩ := H
  obtain ⟨lo', Gs, k1, k2⟩ := HN
  have look : ∀ i A, lay (L1 ++ L2) i = some A → (i < L1.length ∧ lay L1 i = some A) ∨ (L1.length ≤ i ∧ lay L2 (i - L1.length) = some A) := by
    intro i A hA
    simp only [lay] at hA ⊢
    rcases Nat.lt_or_ge i L1.length with h | h
    · rw [List.getElem?_append_left h] at hA; exact .inl ⟨h, hA⟩
    · rw [List.getElem?_append_right h] at hA; exact .inr ⟨h, hA⟩
  refine ⟨lo.trans lo' (by simp), fun i => if i < L1.length then Fs i else Gs (i - L1.length), fun i A hA => ?_, fun i j A B hij hA hB g hg => ?_⟩
  · rcases look i A hA with ⟨hi, h⟩ | ⟨hi, h⟩
    · simp only [if_pos hi]
      exact ⟨A.loc (h1 i A h).1 fun g hg => lo'.block g (A.old (h1 i A h).1 g hg) (by simp), (h1 i A h).2⟩
    · simp only [if_neg (Nat.not_lt.2 hi)]
      exact ⟨(k1 _ A h).1, fun g hg => .inr (by
        rcases (k1 _ A h).2 g hg with e | e
        · simp at e
        · exact Nat.le_trans lo.size e)⟩
  · rcases look i A hA with ⟨hi, h⟩ | ⟨hi, h⟩ <;> rcases look j B hB with ⟨hj, h'⟩ | ⟨hj, h'⟩
    · simp only [if_pos hi] at hg
      simp only [if_pos hj]
      exact h2 i j A B hij h h' g hg
    · simp only [if_pos hi] at hg
      simp only [if_neg (Nat.not_lt.2 hj)]
      intro m
      have := A.old (h1 i A h).1 g hg
      rcases (k1 _ B h').2 g m with e | e
      · simp at e
      · omega
    · simp only [if_neg (Nat.not_lt.2 hi)] at hg
      simp only [if_pos hj]
      intro m
      have := B.old (h1 j B h').1 g m
      rcases (k1 _ A h).2 g hg with e | e
      · simp at e
      · omega
    · simp only [if_neg (Nat.not_lt.2 hi)] at hg
      simp only [if_neg (Nat.not_lt.2 hj)]
      exact k2 _ _ A B (by omega) h h' g hg
theorem lay1_of {A B : Own} {L : List Own} (h : L = A :: B :: []) : ∀ k C, lay [A] k = some C → lay L k = some C := by
  subst h
  intro k C hC
  match k with
  | 0 => exact hC
  | k + 1 => simp [lay] at hC
end Go.Proofs.Ythoopaknldkclaa

namespace Go.Proofs.Ythoopaknldkclaa
open Go.ChangeShapes Go.WideShapes Go.ChangeAt Go.RowKit
set_option linter.unusedVariables false
set_option maxRecDepth 100000

/-- a case as it lies in memory, and what its lists hold -/
structure CaseR where
  z0 : Int
  A1 : Option Addr
  n1 : Nat
  c1 : Nat
  l1 : List UInt8
  A2 : Option Addr
  n2 : Nat
  c2 : Nat
  l2 : List UInt8
instance : Inhabited CaseR := ⟨⟨0, none, 0, 0, [], none, 0, 0, []⟩⟩
def CaseR.cs (s : CaseR) : List Value := [.int .i64 s.z0, .slice s.A1 s.n1 s.c1, .slice s.A2 s.n2 s.c2]
structure CaseR.Ok (w : World) (s : CaseR) : Prop where
  i0 : -9223372036854775808 ≤ s.z0 ∧ s.z0 ≤ 9223372036854775807
  r1 : Rd w 1 s.A1 s.n1 (s.l1.map vb)
  m1 : s.n1 ≤ 1048576
  q1 : s.n1 ≤ s.c1
  r2 : Rd w 1 s.A2 s.n2 (s.l2.map vb)
  m2 : s.n2 ≤ 1048576
  q2 : s.n2 ≤ s.c2

theorem case_cellsOf : Try.prog.cellsOf 24 = 3 := by kernel_rfl
theorem CaseR.cs_length (s : CaseR) : s.cs.length = 3 := rfl

theorem case_of_trodU {H : Type} {enc : TypeId × Value → H} {W : World} {b : Nat} {sp : Nat → Bool} {hd : Bool} {fuel : Nat} {cs0 : List Value} {x : DataW H × List MemPlace}
    (hu : Rows.uptoBulk x.1 ≤ 1048576) (h : DataW.trod enc Try.prog W b sp hd fuel 24 cs0 = some x) : ∃ s : CaseR, cs0 = s.cs ∧ s.Ok W := by
  obtain ⟨xs, k, hk, hxy, hlen, hxl, hf⟩ := DataW.trod_struct Try.underlying24 h
  rw [case_cellsOf] at hlen
  subst hxy
  match cs0, hlen with
  | [c0, c1, c2], _ =>
    match xs, hxl with
    | [y0, y1, y2], _ =>
      have g0 := hf 0 _ rfl
      have g1 := hf 1 _ rfl
      have g2 := hf 2 _ rfl
      simp [List.drop, List.take, show Try.prog.cellsOf 22 = 1 by kernel_rfl, show Try.prog.cellsOf 3 = 1 by kernel_rfl] at g0 g1 g2
      rw [Rows.uptoBulk] at hu
      obtain ⟨Z0, e0, -, w0⟩ := DataW.trod_int Try.underlying3 g0
      simp only [List.cons.injEq, and_true] at e0
      subst e0
      have u1 := bulk_mem (ds := [y0, y1, y2].map (·.1)) (i := 1) (d := y1.1) rfl
      obtain ⟨A1, n1, c1, l1, rfl, r1, b1, q1⟩ := bytes_trodU (by omega) g1
      have u2 := bulk_mem (ds := [y0, y1, y2].map (·.1)) (i := 2) (d := y2.1) rfl
      obtain ⟨A2, n2, c2, l2, rfl, r2, b2, q2⟩ := bytes_trodU (by omega) g2
      exact ⟨⟨Z0, A1, n1, _, l1, A2, n2, _, l2⟩, rfl, ⟨i64_of w0, r1, b1, q1, r2, b2, q2⟩⟩

theorem open_caseU {H : Type} {enc : TypeId × Value → H} {W : World} {d : DataW H} {p : List MemPlace} {v : Value} {b base : Nat} {sp : Nat → Bool} {hd : Bool} {r : Reach}
    (hv : Value.okWide Try.prog W r base 24 v) (h0 : DataW.Trod enc Try.prog W b sp hd 24 v d p) (hu : Rows.uptoBulk d ≤ 1048576) : ∃ s : CaseR, v = .agg s.cs.toArray ∧ s.Ok W := by
  obtain ⟨cs, rfl, -⟩ := okWide_struct Try.underlying24 hv
  obtain ⟨fuel, h⟩ := h0
  obtain ⟨cs⟩ := cs
  simp only [Value.cells] at h
  obtain ⟨s, e, ok⟩ := case_of_trodU hu h
  exact ⟨s, by rw [e], ok⟩

def casesV (l : List CaseR) : List Value := l.flatMap CaseR.cs
theorem casesV_length (l : List CaseR) : (casesV l).length = l.length * 3 := flat_length CaseR.cs_length l
theorem casesV_get (l : List CaseR) (i j : Nat) (a : CaseR) (hi : l[i]? = some a) (hj : j < 3) : (casesV l)[i * 3 + j]? = a.cs[j]? := flat_get CaseR.cs_length l i j a hi hj
theorem case_range {w : World} {A : Option Addr} {n k : Nat} {l : List CaseR} {x : CaseR} (h : Rd w 3 A n (casesV l)) (hx : l[k]? = some x) : ∃ p o, A = some ⟨p, o, none⟩ ∧ w.rangeAt p (o + k * 3) x.cs := by
  have hl := h.1
  rw [casesV_length] at hl
  have hk : k < l.length := (List.getElem?_eq_some_iff.1 hx).1
  obtain ⟨p, o, rfl, -, hc⟩ := h.flat (by omega) (by omega)
  refine ⟨p, o, rfl, fun j v hv => ?_⟩
  have hj : j < x.cs.length := (List.getElem?_eq_some_iff.1 hv).1
  rw [CaseR.cs_length] at hj
  rw [Nat.add_assoc]
  exact hc (k * 3 + j) v (by rw [casesV_get l k j x hx hj]; exact hv)
theorem case_cells {w : World} {A : Option Addr} {n k : Nat} {l : List CaseR} {x : CaseR} (h : Rd w 3 A n (casesV l)) (hx : l[k]? = some x) : ∃ p o, A = some ⟨p, o, none⟩ ∧ w.cell? ⟨p, o + k * 3, none⟩ = some (.int .i64 x.z0) ∧ w.cell? ⟨p, o + k * 3 + 1, none⟩ = some (.slice x.A1 x.n1 x.c1) ∧ w.cell? ⟨p, o + k * 3 + 2, none⟩ = some (.slice x.A2 x.n2 x.c2) ∧ p < w.heap.size := by
  obtain ⟨p, o, rfl, hr⟩ := case_range h hx
  have h0 := hr 0 _ rfl
  exact ⟨p, o, rfl, h0, hr 1 _ rfl, hr 2 _ rfl, World.block_lt_of_cell? w _ h0⟩
/-- a whole as it lies in memory, and what its lists hold -/
structure WholeR where
  A0 : Option Addr
  n0 : Nat
  c0 : Nat
  l0 : List UInt8
  z1 : Int
  b2 : Bool
instance : Inhabited WholeR := ⟨⟨none, 0, 0, [], 0, false⟩⟩
def WholeR.cs (s : WholeR) : List Value := [.slice s.A0 s.n0 s.c0, .int .i64 s.z1, .bool s.b2]
structure WholeR.Ok (w : World) (s : WholeR) : Prop where
  r0 : Rd w 1 s.A0 s.n0 (s.l0.map vb)
  m0 : s.n0 ≤ 1048576
  q0 : s.n0 ≤ s.c0
  i1 : -9223372036854775808 ≤ s.z1 ∧ s.z1 ≤ 9223372036854775807

theorem whole_cellsOf : Try.prog.cellsOf 26 = 3 := by kernel_rfl
theorem WholeR.cs_length (s : WholeR) : s.cs.length = 3 := rfl

theorem whole_of_trodU {H : Type} {enc : TypeId × Value → H} {W : World} {b : Nat} {sp : Nat → Bool} {hd : Bool} {fuel : Nat} {cs0 : List Value} {x : DataW H × List MemPlace}
    (hu : Rows.uptoBulk x.1 ≤ 1048576) (h : DataW.trod enc Try.prog W b sp hd fuel 26 cs0 = some x) : ∃ s : WholeR, cs0 = s.cs ∧ s.Ok W := by
  obtain ⟨xs, k, hk, hxy, hlen, hxl, hf⟩ := DataW.trod_struct Try.underlying26 h
  rw [whole_cellsOf] at hlen
  subst hxy
  match cs0, hlen with
  | [c0, c1, c2], _ =>
    match xs, hxl with
    | [y0, y1, y2], _ =>
      have g0 := hf 0 _ rfl
      have g1 := hf 1 _ rfl
      have g2 := hf 2 _ rfl
      simp [List.drop, List.take, show Try.prog.cellsOf 22 = 1 by kernel_rfl, show Try.prog.cellsOf 4 = 1 by kernel_rfl, show Try.prog.cellsOf 3 = 1 by kernel_rfl] at g0 g1 g2
      rw [Rows.uptoBulk] at hu
      have u0 := bulk_mem (ds := [y0, y1, y2].map (·.1)) (i := 0) (d := y0.1) rfl
      obtain ⟨A0, n0, c0, l0, rfl, r0, b0, q0⟩ := bytes_trodU (by omega) g0
      obtain ⟨Z1, e1, -, w1⟩ := DataW.trod_int Try.underlying3 g1
      simp only [List.cons.injEq, and_true] at e1
      subst e1
      obtain ⟨v2, e2⟩ := bool_trodU g2
      simp only [List.cons.injEq, and_true] at e2
      subst e2
      exact ⟨⟨A0, n0, _, l0, Z1, v2⟩, rfl, ⟨r0, b0, q0, i64_of w1⟩⟩

theorem open_wholeU {H : Type} {enc : TypeId × Value → H} {W : World} {d : DataW H} {p : List MemPlace} {v : Value} {b base : Nat} {sp : Nat → Bool} {hd : Bool} {r : Reach}
    (hv : Value.okWide Try.prog W r base 26 v) (h0 : DataW.Trod enc Try.prog W b sp hd 26 v d p) (hu : Rows.uptoBulk d ≤ 1048576) : ∃ s : WholeR, v = .agg s.cs.toArray ∧ s.Ok W := by
  obtain ⟨cs, rfl, -⟩ := okWide_struct Try.underlying26 hv
  obtain ⟨fuel, h⟩ := h0
  obtain ⟨cs⟩ := cs
  simp only [Value.cells] at h
  obtain ⟨s, e, ok⟩ := whole_of_trodU hu h
  exact ⟨s, by rw [e], ok⟩

def wholesV (l : List WholeR) : List Value := l.flatMap WholeR.cs
theorem wholesV_length (l : List WholeR) : (wholesV l).length = l.length * 3 := flat_length WholeR.cs_length l
theorem wholesV_get (l : List WholeR) (i j : Nat) (a : WholeR) (hi : l[i]? = some a) (hj : j < 3) : (wholesV l)[i * 3 + j]? = a.cs[j]? := flat_get WholeR.cs_length l i j a hi hj
theorem whole_range {w : World} {A : Option Addr} {n k : Nat} {l : List WholeR} {x : WholeR} (h : Rd w 3 A n (wholesV l)) (hx : l[k]? = some x) : ∃ p o, A = some ⟨p, o, none⟩ ∧ w.rangeAt p (o + k * 3) x.cs := by
  have hl := h.1
  rw [wholesV_length] at hl
  have hk : k < l.length := (List.getElem?_eq_some_iff.1 hx).1
  obtain ⟨p, o, rfl, -, hc⟩ := h.flat (by omega) (by omega)
  refine ⟨p, o, rfl, fun j v hv => ?_⟩
  have hj : j < x.cs.length := (List.getElem?_eq_some_iff.1 hv).1
  rw [WholeR.cs_length] at hj
  rw [Nat.add_assoc]
  exact hc (k * 3 + j) v (by rw [wholesV_get l k j x hx hj]; exact hv)
theorem whole_cells {w : World} {A : Option Addr} {n k : Nat} {l : List WholeR} {x : WholeR} (h : Rd w 3 A n (wholesV l)) (hx : l[k]? = some x) : ∃ p o, A = some ⟨p, o, none⟩ ∧ w.cell? ⟨p, o + k * 3, none⟩ = some (.slice x.A0 x.n0 x.c0) ∧ w.cell? ⟨p, o + k * 3 + 1, none⟩ = some (.int .i64 x.z1) ∧ w.cell? ⟨p, o + k * 3 + 2, none⟩ = some (.bool x.b2) ∧ p < w.heap.size := by
  obtain ⟨p, o, rfl, hr⟩ := whole_range h hx
  have h0 := hr 0 _ rfl
  exact ⟨p, o, rfl, h0, hr 1 _ rfl, hr 2 _ rfl, World.block_lt_of_cell? w _ h0⟩
/-- a kact as it lies in memory, and what its lists hold -/
structure KactR where
  z0 : Int
  z1 : Int
  z2 : Int
  A3 : Option Addr
  n3 : Nat
  c3 : Nat
  l3 : List UInt8
  z4 : Int
  b5 : Bool
instance : Inhabited KactR := ⟨⟨0, 0, 0, none, 0, 0, [], 0, false⟩⟩
def KactR.cs (s : KactR) : List Value := [.int .i64 s.z0, .int .i64 s.z1, .int .i64 s.z2, .slice s.A3 s.n3 s.c3, .int .i64 s.z4, .bool s.b5]
structure KactR.Ok (w : World) (s : KactR) : Prop where
  i0 : -9223372036854775808 ≤ s.z0 ∧ s.z0 ≤ 9223372036854775807
  i1 : -9223372036854775808 ≤ s.z1 ∧ s.z1 ≤ 9223372036854775807
  i2 : -9223372036854775808 ≤ s.z2 ∧ s.z2 ≤ 9223372036854775807
  r3 : Rd w 1 s.A3 s.n3 (s.l3.map vb)
  m3 : s.n3 ≤ 1048576
  q3 : s.n3 ≤ s.c3
  i4 : -9223372036854775808 ≤ s.z4 ∧ s.z4 ≤ 9223372036854775807

theorem kact_cellsOf : Try.prog.cellsOf 30 = 6 := by kernel_rfl
theorem KactR.cs_length (s : KactR) : s.cs.length = 6 := rfl

theorem kact_of_trodU {H : Type} {enc : TypeId × Value → H} {W : World} {b : Nat} {sp : Nat → Bool} {hd : Bool} {fuel : Nat} {cs0 : List Value} {x : DataW H × List MemPlace}
    (hu : Rows.uptoBulk x.1 ≤ 1048576) (h : DataW.trod enc Try.prog W b sp hd fuel 30 cs0 = some x) : ∃ s : KactR, cs0 = s.cs ∧ s.Ok W := by
  obtain ⟨xs, k, hk, hxy, hlen, hxl, hf⟩ := DataW.trod_struct Try.underlying30 h
  rw [kact_cellsOf] at hlen
  subst hxy
  match cs0, hlen with
  | [c0, c1, c2, c3, c4, c5], _ =>
    match xs, hxl with
    | [y0, y1, y2, y3, y4, y5], _ =>
      have g0 := hf 0 _ rfl
      have g1 := hf 1 _ rfl
      have g2 := hf 2 _ rfl
      have g3 := hf 3 _ rfl
      have g4 := hf 4 _ rfl
      have g5 := hf 5 _ rfl
      simp [List.drop, List.take, show Try.prog.cellsOf 22 = 1 by kernel_rfl, show Try.prog.cellsOf 4 = 1 by kernel_rfl, show Try.prog.cellsOf 3 = 1 by kernel_rfl] at g0 g1 g2 g3 g4 g5
      rw [Rows.uptoBulk] at hu
      obtain ⟨Z0, e0, -, w0⟩ := DataW.trod_int Try.underlying3 g0
      simp only [List.cons.injEq, and_true] at e0
      subst e0
      obtain ⟨Z1, e1, -, w1⟩ := DataW.trod_int Try.underlying3 g1
      simp only [List.cons.injEq, and_true] at e1
      subst e1
      obtain ⟨Z2, e2, -, w2⟩ := DataW.trod_int Try.underlying3 g2
      simp only [List.cons.injEq, and_true] at e2
      subst e2
      have u3 := bulk_mem (ds := [y0, y1, y2, y3, y4, y5].map (·.1)) (i := 3) (d := y3.1) rfl
      obtain ⟨A3, n3, c3, l3, rfl, r3, b3, q3⟩ := bytes_trodU (by omega) g3
      obtain ⟨Z4, e4, -, w4⟩ := DataW.trod_int Try.underlying3 g4
      simp only [List.cons.injEq, and_true] at e4
      subst e4
      obtain ⟨v5, e5⟩ := bool_trodU g5
      simp only [List.cons.injEq, and_true] at e5
      subst e5
      exact ⟨⟨Z0, Z1, Z2, A3, n3, _, l3, Z4, v5⟩, rfl, ⟨i64_of w0, i64_of w1, i64_of w2, r3, b3, q3, i64_of w4⟩⟩

theorem open_kactU {H : Type} {enc : TypeId × Value → H} {W : World} {d : DataW H} {p : List MemPlace} {v : Value} {b base : Nat} {sp : Nat → Bool} {hd : Bool} {r : Reach}
    (hv : Value.okWide Try.prog W r base 30 v) (h0 : DataW.Trod enc Try.prog W b sp hd 30 v d p) (hu : Rows.uptoBulk d ≤ 1048576) : ∃ s : KactR, v = .agg s.cs.toArray ∧ s.Ok W := by
  obtain ⟨cs, rfl, -⟩ := okWide_struct Try.underlying30 hv
  obtain ⟨fuel, h⟩ := h0
  obtain ⟨cs⟩ := cs
  simp only [Value.cells] at h
  obtain ⟨s, e, ok⟩ := kact_of_trodU hu h
  exact ⟨s, by rw [e], ok⟩

def kactsV (l : List KactR) : List Value := l.flatMap KactR.cs
theorem kactsV_length (l : List KactR) : (kactsV l).length = l.length * 6 := flat_length KactR.cs_length l
theorem kactsV_get (l : List KactR) (i j : Nat) (a : KactR) (hi : l[i]? = some a) (hj : j < 6) : (kactsV l)[i * 6 + j]? = a.cs[j]? := flat_get KactR.cs_length l i j a hi hj
theorem kact_range {w : World} {A : Option Addr} {n k : Nat} {l : List KactR} {x : KactR} (h : Rd w 6 A n (kactsV l)) (hx : l[k]? = some x) : ∃ p o, A = some ⟨p, o, none⟩ ∧ w.rangeAt p (o + k * 6) x.cs := by
  have hl := h.1
  rw [kactsV_length] at hl
  have hk : k < l.length := (List.getElem?_eq_some_iff.1 hx).1
  obtain ⟨p, o, rfl, -, hc⟩ := h.flat (by omega) (by omega)
  refine ⟨p, o, rfl, fun j v hv => ?_⟩
  have hj : j < x.cs.length := (List.getElem?_eq_some_iff.1 hv).1
  rw [KactR.cs_length] at hj
  rw [Nat.add_assoc]
  exact hc (k * 6 + j) v (by rw [kactsV_get l k j x hx hj]; exact hv)
theorem kact_cells {w : World} {A : Option Addr} {n k : Nat} {l : List KactR} {x : KactR} (h : Rd w 6 A n (kactsV l)) (hx : l[k]? = some x) : ∃ p o, A = some ⟨p, o, none⟩ ∧ w.cell? ⟨p, o + k * 6, none⟩ = some (.int .i64 x.z0) ∧ w.cell? ⟨p, o + k * 6 + 1, none⟩ = some (.int .i64 x.z1) ∧ w.cell? ⟨p, o + k * 6 + 2, none⟩ = some (.int .i64 x.z2) ∧ w.cell? ⟨p, o + k * 6 + 3, none⟩ = some (.slice x.A3 x.n3 x.c3) ∧ w.cell? ⟨p, o + k * 6 + 4, none⟩ = some (.int .i64 x.z4) ∧ w.cell? ⟨p, o + k * 6 + 5, none⟩ = some (.bool x.b5) ∧ p < w.heap.size := by
  obtain ⟨p, o, rfl, hr⟩ := kact_range h hx
  have h0 := hr 0 _ rfl
  exact ⟨p, o, rfl, h0, hr 1 _ rfl, hr 2 _ rfl, hr 3 _ rfl, hr 4 _ rfl, hr 5 _ rfl, World.block_lt_of_cell? w _ h0⟩
end Go.Proofs.Ythoopaknldkclaa

namespace Go.Proofs.Ythoopaknldkclaa
open Go.ChangeShapes Go.WideShapes Go.ChangeAt Go.RowKit
set_option linter.unusedVariables false
set_option maxRecDepth 100000

theorem kact_bulk {H : Type} {enc : TypeId × Value → H} {W : World} {b : Nat} {sp : Nat → Bool} {hd : Bool} {fuel : Nat} {cs0 : List Value} {x : DataW H × List MemPlace}
    (h : DataW.trod enc Try.prog W b sp hd fuel 30 cs0 = some x) : 1 ≤ Rows.uptoBulk x.1 := by
  obtain ⟨xs, k, hk, hxy, -⟩ := DataW.trod_struct Try.underlying30 h
  subst hxy
  simp only [Rows.uptoBulk]
  omega
theorem bulk_count {H : Type} (L : List (DataW H)) (h : ∀ d ∈ L, 1 ≤ Rows.uptoBulk d) : L.length ≤ Rows.uptoBulkAll L := by
  induction L with
  | nil => simp
  | cons x r ih =>
    rw [Rows.uptoBulkAll, List.length_cons]
    have h1 := h x (by simp)
    have h2 := ih (fun d hd => h d (by simp [hd]))
    omega
theorem open_kactsU {H : Type} {enc : TypeId × Value → H} {W : World} {d : DataW H} {p : List MemPlace} {a : Option Addr} {len cap : Nat} {b : Nat} {sp : Nat → Bool} {hd : Bool}
    (h : DataW.Trod enc Try.prog W b sp hd 31 (.slice a len cap) d p) (hu : Rows.uptoBulk d ≤ 1048576) : ∃ l : List KactR, Rd W 6 a len (kactsV l) ∧ len ≤ 1048576 ∧ ∀ s ∈ l, s.Ok W := by
  obtain ⟨fuel, hf⟩ := h
  rcases Go.Deep.open_slice Try.underlying31 hf with ⟨hcs, _⟩ | ⟨x, l, c, m, n, D, Pl, hcs, hb, hl, hm, hmm, hx, hel⟩
  · simp [Value.cells] at hcs
    obtain ⟨rfl, rfl, rfl⟩ := hcs
    exact ⟨[], Rd.none_, by omega, by simp⟩
  · simp [Value.cells] at hcs
    obtain ⟨rfl, rfl, rfl⟩ := hcs
    simp only [Prod.mk.injEq] at hx
    have hx1 := hx.1
    subst hx1
    have hlm : len ≤ m := by rw [hmm]; split <;> omega
    simp only [Rows.uptoBulk] at hu
    have hlen1 : len ≤ 1048576 := by
      have h := bulk_count ((List.range len).map D) (fun d hd => by
        obtain ⟨i, hi, rfl⟩ := List.mem_map.1 hd
        have hi' := List.mem_range.1 hi
        obtain ⟨cs', -, h2⟩ := hel i (by omega)
        exact kact_bulk h2)
      rw [List.length_map, List.length_range] at h
      omega
    have each : ∀ i, i < len → ∃ s : KactR, s.Ok W ∧ ∀ q, q < 6 → W.cell? (x.add (i * 6 + q)) = s.cs[q]? := by
      intro i hi
      obtain ⟨cs', h1, h2⟩ := hel i (by omega)
      rw [kact_cellsOf] at h1
      obtain ⟨s, rfl, ok⟩ := kact_of_trodU (Nat.le_trans (bulk_mem (ds := (List.range len).map D) (i := i) (d := D i) (by rw [List.getElem?_map, List.getElem?_range hi]; rfl)) (by omega)) h2
      refine ⟨s, ok, fun q hq => ?_⟩
      have := (World.cells?_some h1).2.2 q hq
      rwa [add_of_add] at this
    obtain ⟨f, hf'⟩ := Go.Deep.choose_lt each
    have hlen : ((List.range len).map f).length = len := by simp
    refine ⟨(List.range len).map f, ⟨by rw [kactsV_length, hlen], fun hn => ⟨x, rfl, ?_, fun i u hu => ?_⟩⟩, hlen1, ?_⟩
    · have h0 := (hf' 0 hn).2 0 (by omega)
      have := World.block_lt_of_cell? W _ (h0.trans rfl)
      rwa [block_of_add] at this
    · have hi : i < (kactsV ((List.range len).map f)).length := (List.getElem?_eq_some_iff.1 hu).1
      rw [kactsV_length, hlen] at hi
      have hq : i = (i / 6) * 6 + i % 6 := by omega
      have h7 : i / 6 < len := by omega
      have hg := kactsV_get ((List.range len).map f) (i / 6) (i % 6) (f (i / 6)) (by simp [h7]) (by omega)
      rw [← hq, hu] at hg
      rw [hq, (hf' (i / 6) h7).2 (i % 6) (by omega), ← hg]
    · intro s hs
      obtain ⟨i, hi, rfl⟩ := List.mem_map.1 hs
      exact (hf' i (List.mem_range.1 hi)).1

end Go.Proofs.Ythoopaknldkclaa

namespace Go.Proofs.Ythoopaknldkclaa
open Go.RowKit

set_option maxHeartbeats 400000 in
theorem sameBytes_any (A B : Option Addr) (n m c d : Nat) (xs ys : List UInt8) (w : World) (ha : Rd w 1 A n (xs.map vb)) (hb : Rd w 1 B m (ys.map vb)) (hn : n ≤ 9223372036854775807) (hm : m ≤ 9223372036854775807) :
    Calls Try.prog 16 #[.slice A n c, .slice B m d] w fun e w' => e = .returned (.bool (decide (xs = ys))) ∧ ∃ k, w' = w.drewN k := by
  have hlx : xs.length = n := by simpa using ha.1
  have hly : ys.length = m := by simpa using hb.1
  have Hx := Lib.hid hlx
  have Hy := Lib.hid hly
  clear hlx hly
  by_cases hnm : n = m
  · subst hnm
    have h0 : ((n : Int) != n) = false := by simp
    go_enter Try.func16, Try.ntmps16
    go_wp2
    go_loopw [5] (fun i wr => ∃ k q : Nat, k ≤ n ∧ i = .int .i64 k ∧ wr = w.drewN q ∧ Hid (xs.take k = ys.take k)) (fun i _ => n - (intOf i).toNat)
    case atStart => exact ⟨0, 0, Nat.zero_le _, rfl, rfl, rfl⟩
    case round =>
      obtain ⟨k, q, hk, rfl, rfl, hpre⟩ := hrel
      by_cases hlt : k < n
      · obtain ⟨p, x, rfl, hx, hcx⟩ := ha.byteAt hlt
        obtain ⟨p', y, rfl, hy, hcy⟩ := hb.byteAt hlt
        have HX := Lib.hid hx
        have HY := Lib.hid hy
        clear hx hy
        go_wp2
        go_quiet (fail)
        by_cases hxy : x = y
        · subst hxy
          have h2 : ((x.toNat : Int) != (x.toNat : Int)) = false := by simp
          go_wp2
          go_roundw
          case rel => exact ⟨k + 1, q + nq, by omega, by go_num, by simp, take_succ_eq hpre.out HX.out HY.out⟩
          case measure => simp [intOf]; omega
        · have h2 : ((x.toNat : Int) != (y.toNat : Int)) = true := by
            simp only [bne_iff_ne, ne_eq]
            intro h; exact hxy (UInt8.toNat_inj.1 (by omega))
          go_wp2
          go_ret
          refine ⟨ret_bool ?_, q + nq, by simp⟩
          symm; simp only [decide_eq_false_iff_not]
          rintro rfl
          have a := HX.out
          have b := HY.out
          rw [a] at b
          exact hxy (Option.some.inj b)
      · go_wp2
        go_ret
        refine ⟨ret_bool ?_, q, rfl⟩
        symm; simp only [decide_eq_true_eq]
        have h := hpre.out
        have a := Hx.out
        have b := Hy.out
        rwa [List.take_of_length_le (by omega), List.take_of_length_le (by omega)] at h
  · have h0 : ((n : Int) != m) = true := by simp only [bne_iff_ne, ne_eq]; omega
    go_enter Try.func16, Try.ntmps16
    go_wp2
    go_ret
    refine ⟨ret_bool ?_, 0, rfl⟩
    symm; simp only [decide_eq_false_iff_not]
    rintro rfl
    exact hnm (Hx.out.symm.trans Hy.out)

theorem u8_info : (Try.prog.info? 5).map (fun i => (i.zero, i.size, i.bytes)) = some (some (.int .u8 0), 1, 1) := by kernel_rfl

/-- A slice of bytes in memory from 'base' on: nil and empty, or a row's beginning. -/
def OwnB (w : World) (base : Nat) (v : Value) (l : List UInt8) : Prop := w.ownsRow base 5 1 v l.length (l.map vb)

theorem OwnB.of_push {w : World} {base : Nat} {v : Value} {l : List UInt8} {b : UInt8} (h : w.ownsRow base 5 1 v (l.length + 1) (l.map vb ++ [vb b])) : OwnB w base v (l ++ [b]) := by
  simpa [OwnB] using h
theorem OwnB.push_at {w : World} {base k : Nat} {v : Value} {l : List UInt8} {b : UInt8} (hk : l.length = k) (h : w.ownsRow base 5 1 v (k + 1) (l.map vb ++ [.int .u8 (b.toNat : Int)])) : OwnB w base v (l ++ [b]) := by
  subst hk; exact OwnB.of_push h
theorem OwnB.below {w w' : World} {base : Nat} {v : Value} {l : List UInt8} (h : OwnB w base v l) (hb : Below w.heap.size w w') : OwnB w' base v l :=
  h.kept (row := none) ⟨hb.os, hb.tape, hb.output, hb.size, fun k hk _ => hb.block k hk⟩ (by cases hv : v.ownBlock <;> simp)
theorem OwnB.more {w : World} {base base' : Nat} {v : Value} {l : List UInt8} (h : OwnB w base v l) (hb : base' ≤ base) : OwnB w base' v l := by
  refine ⟨h.1, ?_⟩
  rcases h.2 with hn | ⟨g, cap, cur, h1, h2, h3⟩
  · exact .inl hn
  · exact .inr ⟨g, cap, cur, h1, Nat.le_trans hb h2, h3⟩
theorem OwnB.shape {w : World} {base : Nat} {v : Value} {l : List UInt8} (h : OwnB w base v l) : ∃ A n c, v = .slice A n c ∧ Hid (n = l.length) ∧ Rd w 1 A n (l.map vb) := by
  rcases h.2 with ⟨rfl, hn⟩ | ⟨g, cap, cur, rfl, h2, h3⟩
  · have : l = [] := List.length_eq_zero_iff.1 hn
    subst this
    exact ⟨none, 0, 0, rfl, rfl, Rd.none_⟩
  · exact ⟨_, _, _, rfl, rfl, Rd.of_own h⟩
theorem OwnB.cellAt {w : World} {base g n c : Nat} {l : List UInt8} (h : OwnB w base (.slice (some ⟨g, 0, none⟩) n c) l) {k : Nat} (hk : k < l.length) :
    ∃ x, l[k]? = some x ∧ w.cell? ⟨g, k, none⟩ = some (.int .u8 (x.toNat : Int)) := by
  have hn : n = l.length := by
    rcases h.2 with ⟨h', _⟩ | ⟨g', cap', cur, h', _⟩
    · cases h'
    · injection h'
  subst hn
  have hc := World.ownsRow.cellAt h k (by omega)
  rw [List.getElem?_map, List.getElem?_eq_getElem hk] at hc
  exact ⟨l[k], List.getElem?_eq_getElem hk, hc⟩
theorem OwnB.frozenAt {w : World} {base g n c : Nat} {l : List UInt8} (h : OwnB w base (.slice (some ⟨g, 0, none⟩) n c) l) (k : Nat) : w.frozen? ⟨g, k, none⟩ = false := by
  have hn : n = l.length := by
    rcases h.2 with ⟨h', _⟩ | ⟨g', cap', cur, h', _⟩
    · cases h'
    · injection h'
  subst hn
  exact World.ownsRow.frozenAt h k
theorem OwnB.stored {w : World} {base g n c : Nat} {l : List UInt8} (h : OwnB w base (.slice (some ⟨g, 0, none⟩) n c) l) (k : Nat) (x : UInt8) :
    OwnB (w.setCell ⟨g, k, none⟩ (.int .u8 (x.toNat : Int))) base (.slice (some ⟨g, 0, none⟩) n c) (l.set k x) ∧ w.grownBy (w.setCell ⟨g, k, none⟩ (.int .u8 (x.toNat : Int))) (some g) := by
  have hn : n = l.length := by
    rcases h.2 with ⟨h', _⟩ | ⟨g', cap', cur, h', _⟩
    · cases h'
    · injection h'
  subst hn
  have hs := World.ownsRow.stored h k (vb x)
  exact ⟨by unfold OwnB; rw [List.length_set, List.map_set]; exact hs.1, hs.2⟩
theorem grownBy_trans {a b c : World} {row : Option Nat} (h : a.grownBy b row) (k : b.grownBy c row) : a.grownBy c row :=
  ⟨k.os.trans h.os, k.tape.trans h.tape, k.output.trans h.output, Nat.le_trans h.size k.size, fun i hi hn => (k.block i (Nat.lt_of_lt_of_le hi h.size) hn).trans (h.block i hi hn)⟩
theorem grownBy_drewN {a b : World} {row : Option Nat} (h : a.grownBy b row) (n : Nat) : a.grownBy (b.drewN n) row := ⟨h.os, h.tape, h.output, h.size, h.block⟩
theorem grownBy_drew {a b : World} {row : Option Nat} (h : a.grownBy b row) : a.grownBy b.drew row := ⟨h.os, h.tape, h.output, h.size, h.block⟩

theorem vb_one (l : List UInt8) : ∀ u ∈ l.map vb, u.oneCell' = true := by
  intro u hu
  obtain ⟨b, -, rfl⟩ := List.mem_map.1 hu
  rfl

set_option maxHeartbeats 400000 in
theorem copyBytes_any (A : Option Addr) (n c : Nat) (l : List UInt8) (w : World) (h : Rd w 1 A n (l.map vb)) (hn : n ≤ 140737488355328) :
    Calls Try.prog 38 #[.slice A n c] w fun e w' => ∃ v, e = .returned v ∧ OwnB w' w.heap.size v l ∧ Below w.heap.size w w' := by
  obtain ⟨i0, hi0, hz0, hz1, hz2⟩ := info_parts u8_info
  have hl : n = l.length := by simpa using h.1.symm
  subst hl
  go_enter Try.func38, Try.ntmps38
  go_wp2_with (at_builtin; refine wpList_append_any _ rfl (.tmp 4) (.tmp 5) _ rfl w.heap.size 5 i0 _ 1 1 Try.underlying22 hi0 hz0 hz1 hz2 rfl (by omega) (.slice none 0 0) 0 [] rfl ⟨by simp, .inl ⟨rfl, rfl⟩⟩ A l.length c (l.map vb) rfl h (vb_one l) (by simp only [maxLen]; omega) (by omega) (Nat.le_refl _) ?_; intro v1 w1 hown1 hg1 hat1; have hbw1 : Below w.heap.size w w1 := (Below.refl _ _).grown hg1 (Nat.le_refl _) (by simp [Value.ownBlock]))
  go_ret
  exact ⟨v1, rfl, by simpa [OwnB] using hown1, hbw1⟩

/-- The marks behind a lent list. -/
def markB (k i : Nat) : UInt8 := UInt8.ofNat (7 * k + i + 1)
def marksB (k s n : Nat) : List UInt8 := (List.range n).map fun i => markB k (s + i)
theorem markB_toNat (k i : Nat) : ((markB k i).toNat : Int) = (7 * (k : Int) + i + 1) % 256 := by
  unfold markB; rw [UInt8.toNat_ofNat']; omega
theorem marksB_succ (k s n : Nat) : marksB k s (n + 1) = marksB k s n ++ [markB k (s + n)] := by
  simp [marksB, List.range_succ]
theorem marksB_length (k s n : Nat) : (marksB k s n).length = n := by simp [marksB]

set_option maxHeartbeats 400000 in
theorem markB_any (k i : Nat) (w : World) (h1 : k ≤ 100000) (h3 : i ≤ 1000000000000000000) :
    Calls Try.prog 39 #[.int .i64 (k : Int), .int .i64 (i : Int)] w fun e w' => e = .returned (vb (markB k i)) ∧ w = w' := by
  have hm := markB_toNat k i
  unfold vb
  have HM := Lib.hid hm
  clear hm
  go_enter Try.func39, Try.ntmps39
  go_wp2
  go_ret
  exact ⟨by rw [HM.out]; rfl, rfl⟩

theorem markB_at {a b : Int} (k i : Nat) (ha : a = (k : Int)) (hb : b = (i : Int)) (w : World) (h1 : k ≤ 100000) (h3 : i ≤ 1000000000000000000) :
    Calls Try.prog 39 #[.int .i64 a, .int .i64 b] w fun e w' => e = .returned (vb (markB k i)) ∧ w = w' := by
  subst ha; subst hb; exact markB_any k i w h1 h3

set_option maxRecDepth 100000 in
set_option maxHeartbeats 400000 in
theorem lentBytes_any (A : Option Addr) (n c : Nat) (l : List UInt8) (w : World) (h : Rd w 1 A n (l.map vb)) (hn : n ≤ 140737488355320) :
    Calls Try.prog 10 #[.slice A n c] w fun e w' => ∃ v, e = .returned v ∧ OwnB w' w.heap.size v (l ++ marksB 7 0 6) ∧ Below w.heap.size w w' := by
  obtain ⟨i0, hi0, hz0, hz1, hz2⟩ := info_parts u8_info
  have hl : l.length = n := by simpa using h.1
  have HL := Lib.hid hl
  clear hl
  go_enter Try.func10, Try.ntmps10
  go_wp2_with (go_at_call 38; refine (copyBytes_any A n c l _ h (by omega)).mono ?_; rintro e w1 ⟨v1, rfl, ho1, hb1⟩)
  go_loopw [3, 4] (fun v i wr => ∃ k : Nat, k ≤ 6 ∧ i = .int .i64 k ∧ OwnB wr w.heap.size v (l ++ marksB 7 0 k) ∧ Below w.heap.size w wr) (fun _ i _ => 6 - (intOf i).toNat)
  case atStart => exact ⟨0, Nat.zero_le _, rfl, by simpa [marksB] using ho1, hb1⟩
  case round =>
    obtain ⟨k, hk, rfl, ho, hb⟩ := hrel
    by_cases hlt : k < 6
    · have hz : w.heap.size ≤ wr.heap.size := hb.size
      have hm : (l ++ marksB 7 0 k).length ≤ n + 6 := by have := HL.out; simp [marksB_length]; omega
      go_wp2_with (first | (go_at_call 39; refine (markB_any 7 k _ (by omega) (by omega)).mono ?_; rintro e w2 ⟨rfl, rfl⟩) | (at_builtin; refine wpList_append_own _ rfl (.tmp 11) (.tmp 14) 22 rfl w.heap.size 5 i0 (.int .u8 0) 1 1 Try.underlying22 hi0 hz0 hz1 hz2 rfl (by decide) _ _ _ rfl (ho.alloc _) ⟨wr.heap.size, 0, none⟩ 1 1 [vb (markB 7 k)] rfl rfl (cell_one_new _ _ _) (by simp [Value.oneCell']) (by simp only [maxLen]; omega) (by omega) (by simp; omega) ?_; intro v2 w2 ho2 hg2 hnil))
      have hb2 : Below w.heap.size w w2 := (hb.alloc hz _).grown hg2 (by simp; omega) (fun g hg => (ho.lt g hg).1)
      go_roundw
      case rel => exact ⟨k + 1, by omega, by go_num, by rw [marksB_succ, ← List.append_assoc]; simpa using OwnB.of_push ho2, hb2⟩
      case measure => simp [intOf]; omega
    · have hk6 : k = 6 := by omega
      subst hk6
      go_wp2
      go_ret
      exact ⟨_, rfl, ho, hb⟩

set_option maxHeartbeats 400000 in
theorem keptBytes_any (A B : Option Addr) (n m c d : Nat) (xs ys : List UInt8) (w : World) (ha : Rd w 1 A n (xs.map vb)) (hb : Rd w 1 B m (ys.map vb)) (hn : n ≤ 9223372036854775807) (hm : m ≤ 140737488355320) :
    Calls Try.prog 15 #[.slice A n c, .slice B m d] w fun e w' => e = .returned (.bool (decide (xs = ys ++ marksB 7 0 6))) ∧ Below w.heap.size w w' := by
  have hly : ys.length = m := by simpa using hb.1
  have HY := Lib.hid hly
  clear hly
  go_enter Try.func15, Try.ntmps15
  go_wp2_with fail
  refine (lentBytes_any B m d ys _ hb hm).mono ?_
  rintro e w1 ⟨v1, rfl, ho1, hb1⟩
  obtain ⟨A1, n1, c1, rfl, hn1, hr1⟩ := ho1.shape
  have hlen : n1 ≤ 9223372036854775807 := by rw [hn1.out, List.length_append, HY.out, marksB_length]; omega
  go_wp2_with fail
  refine (sameBytes_any A A1 n _ c c1 xs _ w1 (ha.below hb1) hr1 hn hlen).mono ?_
  rintro e w2 ⟨rfl, q, rfl⟩
  go_wp2
  go_ret
  exact ⟨rfl, bdrewN hb1 q⟩

theorem sameBytes_yes (A B : Option Addr) (n m c d : Nat) (xs ys : List UInt8) (w : World) (ha : Rd w 1 A n (xs.map vb)) (hb : Rd w 1 B m (ys.map vb)) (hn : n ≤ 9223372036854775807) (hm : m ≤ 9223372036854775807) (h : xs = ys) :
    Calls Try.prog 16 #[.slice A n c, .slice B m d] w fun e w' => e = .returned (.bool true) ∧ Below w.heap.size w w' :=
  (sameBytes_any A B n m c d xs ys w ha hb hn hm).mono fun _ _ h' => ⟨by rw [h'.1, decide_eq_true h], by obtain ⟨k, rfl⟩ := h'.2; exact bdrewN (Below.refl _ _) k⟩
theorem sameBytes_quiet (A B : Option Addr) (n m c d : Nat) (xs ys : List UInt8) (w : World) (ha : Rd w 1 A n (xs.map vb)) (hb : Rd w 1 B m (ys.map vb)) (hn : n ≤ 9223372036854775807) (hm : m ≤ 9223372036854775807) (h : xs = ys) :
    Calls Try.prog 16 #[.slice A n c, .slice B m d] w fun e w' => e = .returned (.bool true) ∧ ∃ k, w' = w.drewN k :=
  (sameBytes_any A B n m c d xs ys w ha hb hn hm).mono fun _ _ h' => ⟨by rw [h'.1, decide_eq_true h], h'.2⟩
theorem keptBytes_yes (A B : Option Addr) (n m c d : Nat) (xs ys : List UInt8) (w : World) (ha : Rd w 1 A n (xs.map vb)) (hb : Rd w 1 B m (ys.map vb)) (hn : n ≤ 9223372036854775807) (hm : m ≤ 140737488355320) (h : xs = ys ++ marksB 7 0 6) :
    Calls Try.prog 15 #[.slice A n c, .slice B m d] w fun e w' => e = .returned (.bool true) ∧ Below w.heap.size w w' :=
  (keptBytes_any A B n m c d xs ys w ha hb hn hm).mono fun _ _ h' => ⟨by rw [h'.1, decide_eq_true h], h'.2⟩

theorem over_step {l : List UInt8} {k m : Nat} (hk : k < l.length) : (marksB m 0 k ++ l.drop k).set k (markB m (0 + k)) = marksB m 0 (k + 1) ++ l.drop (k + 1) := by
  rw [marksB_succ, List.set_append_right _ _ (by simp [marksB_length]), marksB_length, Nat.sub_self, List.drop_eq_getElem_cons hk, List.set_cons_zero, List.append_assoc, List.singleton_append]

set_option maxHeartbeats 400000 in
theorem overBytes_any (base g c n : Nat) (l : List UInt8) (w : World) (h : OwnB w base (.slice (some ⟨g, 0, none⟩) n c) l) (HL : Hid (n = l.length)) (hn : n ≤ 140737488355328) :
    Calls Try.prog 54 #[.slice (some ⟨g, 0, none⟩) n c] w fun e w' => e = .returned (.tuple #[]) ∧ OwnB w' base (.slice (some ⟨g, 0, none⟩) n c) (marksB 9 0 n) ∧ w.grownBy w' (some g) := by
  go_enter Try.func54, Try.ntmps54
  go_wp2
  go_loopw [2] (fun i wr => ∃ k : Nat, k ≤ n ∧ i = .int .i64 k ∧ OwnB wr base (.slice (some ⟨g, 0, none⟩) n c) (marksB 9 0 k ++ l.drop k) ∧ w.grownBy wr (some g)) (fun i _ => n - (intOf i).toNat)
  case atStart => exact ⟨0, Nat.zero_le _, rfl, by simpa [marksB] using h, World.grownBy.refl _ _⟩
  case round =>
    obtain ⟨k, hk, rfl, ho, hg⟩ := hrel
    by_cases hlt : k < n
    · have hlk : k < (marksB 9 0 k ++ l.drop k).length := by have := HL.out; simp [marksB_length]; omega
      obtain ⟨x, -, hcell⟩ := ho.cellAt hlk
      have hfr := ho.frozenAt k
      obtain ⟨h1, h2⟩ := ho.stored k (markB 9 (0 + k))
      rw [over_step (by have := HL.out; omega), Nat.zero_add] at h1
      rw [Nat.zero_add] at h2
      go_wp2_with (go_at_call 39; refine (markB_any 9 k _ (by omega) (by omega)).mono ?_; rintro e w2 ⟨rfl, rfl⟩)
      go_roundw
      case rel => exact ⟨k + 1, by omega, by go_num, h1, grownBy_trans hg h2⟩
      case measure => simp [intOf]; omega
    · have hkn : k = n := by omega
      go_wp2
      go_end0
      refine ⟨rfl, ?_, hg⟩
      subst hkn
      rwa [List.drop_of_length_le (by have := HL.out; omega), List.append_nil] at ho
end Go.Proofs.Ythoopaknldkclaa

namespace Go.Proofs.Ythoopaknldkclaa
open Go.RowKit

theorem OwnB.len_eq {w : World} {base n c : Nat} {A : Option Addr} {l : List UInt8} (h : OwnB w base (.slice A n c) l) : n = l.length := by
  rcases h.2 with ⟨h', h2⟩ | ⟨g', cap', cur, h', _⟩
  · injection h' with _ h3; omega
  · injection h'
theorem OwnB.form {w : World} {base n c : Nat} {A : Option Addr} {l : List UInt8} (h : OwnB w base (.slice A n c) l) (hn : 0 < n) : ∃ g, A = some ⟨g, 0, none⟩ ∧ base ≤ g ∧ g < w.heap.size := by
  rcases h.2 with ⟨h', h2⟩ | ⟨g', cap', cur, h', hb, hg, _⟩
  · injection h' with _ h3; omega
  · injection h' with h4 _; exact ⟨g', h4, hb, (Array.getElem?_eq_some_iff.1 hg).1⟩
theorem OwnB.lt {w : World} {base : Nat} {v : Value} {l : List UInt8} (h : OwnB w base v l) : ∀ g, v.ownBlock = some g → base ≤ g ∧ g < w.heap.size := World.ownsRow.lt h
theorem OwnB.kept {w w' : World} {base : Nat} {v : Value} {l : List UInt8} {row : Option Nat} (h : OwnB w base v l) (hg : w.grownBy w' row) (hne : v.ownBlock = none ∨ v.ownBlock ≠ row) : OwnB w' base v l := World.ownsRow.kept h hg hne
theorem OwnB.drewN {w : World} {base : Nat} {v : Value} {l : List UInt8} (h : OwnB w base v l) (n : Nat) : OwnB (w.drewN n) base v l := h
theorem OwnB.alloc {w : World} {base : Nat} {v : Value} {l : List UInt8} (h : OwnB w base v l) (o : Obj) : OwnB (w.alloc o) base v l := World.ownsRow.alloc h o

theorem OwnB.lent {w : World} {base n : Nat} {v : Value} {l : List UInt8} (h : OwnB w base v (l ++ marksB 7 0 6)) (hn : l.length = n) : ∃ g c, v = .slice (some ⟨g, 0, none⟩) (n + 6) c ∧ n + 6 ≤ c ∧ base ≤ g ∧ g < w.heap.size := by
  rcases h.2 with ⟨rfl, h0⟩ | ⟨g, cap, cur, rfl, hb, hg, hnc, _⟩
  · rw [List.length_append, marksB_length] at h0; omega
  · rw [List.length_append, marksB_length, hn] at hnc ⊢
    exact ⟨g, cap, rfl, hnc, hb, (Array.getElem?_eq_some_iff.1 hg).1⟩
theorem OwnB.front {w : World} {base g n c : Nat} {l m : List UInt8} (h : OwnB w base (.slice (some ⟨g, 0, none⟩) n c) (l ++ m)) : OwnB w base (.slice (some ⟨g, 0, none⟩) l.length c) l := by
  rcases h.2 with ⟨h', _⟩ | ⟨g', cap, cur, h', hb, hg, hnc, hcm, hs, htk⟩
  · cases h'
  injection h' with e1 e2 e3
  injection e1 with e1
  injection e1 with e1
  subst e1 e2 e3
  rw [List.length_append] at hnc htk
  refine ⟨by simp, .inr ⟨g, c, cur, rfl, hb, hg, by omega, hcm, hs, ?_⟩⟩
  have : (cur.toList.take ((l.length + m.length) * 1)).take (l.length * 1) = ((l ++ m).map vb).take (l.length * 1) := by rw [htk]
  rw [List.take_take, Nat.min_eq_left (by omega)] at this
  rw [this, List.map_append, Nat.mul_one]
  exact List.take_left' (by simp)

/-- Two owned rows on one block: after the longer one has been gone on with in place, the shorter one is as it was. -/
theorem OwnB.same_block {w w' : World} {base : Nat} {v u : Value} {l m : List UInt8} {b : Nat} (hv : OwnB w base v l) (hu : OwnB w' base u m) (hg : w.heap[b]? ≠ none)
    (hvb : v.ownBlock = some b) (hub : u.ownBlock = some b) (hcap : ∀ n n' c c', v = .slice (some ⟨b, 0, none⟩) n c → u = .slice (some ⟨b, 0, none⟩) n' c' → c = c') (hpre : l = m.take l.length) : OwnB w' base v l := by
  rcases hv.2 with ⟨rfl, _⟩ | ⟨g, cap, cur, rfl, hb, hgg, hnc, hcm, hsz, htk⟩
  · simp [Value.ownBlock] at hvb
  rcases hu.2 with ⟨rfl, _⟩ | ⟨g', cap', cur', rfl, hb', hgg', hnc', hcm', hsz', htk'⟩
  · simp [Value.ownBlock] at hub
  simp [Value.ownBlock] at hvb hub
  subst hvb
  subst hub
  have hc := hcap _ _ _ _ rfl rfl
  subst hc
  refine ⟨by simp, .inr ⟨g', cap, cur', rfl, hb, hgg', hnc, hcm, hsz', ?_⟩⟩
  have h1 : l.length ≤ m.length := by rw [hpre]; simp [List.length_take]; omega
  have h2 : (cur'.toList.take (m.length * 1)).take (l.length * 1) = (m.map vb).take (l.length * 1) := by rw [htk']
  rw [List.take_take, Nat.min_eq_left (by omega)] at h2
  rw [h2, Nat.mul_one, ← List.map_take, ← hpre]

/-- What an append onto an owned row leaves: the same row gone on with, or a new one. -/
theorem append_two {P : Program} (w : World) (base : Nat) (t ty e : TypeId) (i : TypeInfo) (z : Value) (bytes : Nat) (ht : P.underlying t = some (.slice e)) (hi : P.info? e = some i) (hz : i.zero = some z)
    (hsize : i.size = 1) (hby : i.bytes = bytes) (hzs : z.cells.size = 1)
    (v : Value) (n : Nat) (xs : List Value) (hown : w.ownsRow base e 1 v n xs)
    (a : Addr) (m c : Nat) (news : List Value) (hm : 0 < m) (hl : news.length = m * 1) (hnews : ∀ j u, news[j]? = some u → w.cell? (a.add j) = some u) (h1 : ∀ u ∈ news, u.oneCell' = true)
    (h63 : n + m ≤ maxLen) (hbytes : (n + m) * bytes ≤ 140737488355328) (hbase : base ≤ w.heap.size) :
    ∃ v' w', (Builtin.append_ #[t, t] ty #[v, .slice (some a) m c]).run P w = .ok v' w' ∧ w'.ownsRow base e 1 v' (n + m) (xs ++ news) ∧
      ((∃ g cap, v = .slice (some ⟨g, 0, none⟩) n cap ∧ v' = .slice (some ⟨g, 0, none⟩) (n + m) cap ∧ w.grownBy w' (some g)) ∨
       (v'.ownBlock = some w.heap.size ∧ Below w.heap.size w w')) := by
  subst hby
  have hsmall : n + m ≤ 9223372036854775807 := by simp only [maxLen] at h63; omega
  have hlen : (xs ++ news).length = (n + m) * 1 := by rw [List.length_append, hown.1, hl, Nat.add_mul]
  have grown : ∀ (old : Nat), old < n + m →
      (w.drew.alloc (.cells (xs.toArray ++ news.toArray ++ Builtin.zeroCells z.cells (grownCap w (n + m) old e - (n + m))) e)).ownsRow base e 1
        (.slice (some ⟨w.heap.size, 0, none⟩) (n + m) (grownCap w (n + m) old e)) (n + m) (xs ++ news) := by
    intro old ho
    have hge := grownCap_ge w (n + m) old e
    have hcm : grownCap w (n + m) old e ≤ maxLen := grownCap_le_maxLen w (n + m) old e h63
    refine ⟨hlen, .inr ⟨w.heap.size, _, _, rfl, hbase, heap_alloc_new w.drew _, hge, hcm, ?_, ?_⟩⟩
    · simp only [Array.size_append, List.size_toArray, size_zeroCells, hzs, hown.1, hl]
      omega
    · simp only [Array.toList_append, List.append_assoc]
      rw [← List.append_assoc, ← hlen]
      exact List.take_left
  have hbel : ∀ o, Below w.heap.size w (w.drew.alloc o) := fun o => (Below.refl _ _).drew.alloc (Nat.le_refl _) _
  rcases hown.2 with ⟨rfl, rfl⟩ | ⟨g, cap, cur, rfl, hbg, hg, hnc, hcm, hcs, htake⟩
  · have hx : xs = [] := List.eq_nil_of_length_eq_zero (by simpa using hown.1)
    subst hx
    have hr := run_append_nil (P := P) w t ty e i z ht hi hz a m c news (by rw [hsize]; exact hl) hnews (by omega) (by omega) (by have hb := hbytes; simp only [Nat.zero_add] at hb; omega)
    have hgr := grown 0 (by omega)
    simp only [Nat.zero_add, List.nil_append, Array.empty_append] at hgr ⊢
    exact ⟨_, _, hr, hgr, .inr ⟨rfl, hbel _⟩⟩
  · by_cases hroom : n + m ≤ cap
    · have hfit : n * i.size + news.length ≤ cur.size := by rw [hsize, hl, hcs, ← Nat.add_mul]; exact Nat.mul_le_mul_right _ hroom
      have hr := run_append_room (P := P) w t ty e i ht hi g n cap cur hg a m c news (by rw [hsize]; exact hl) hnews h1 hroom hfit
      refine ⟨_, _, hr, ⟨hlen, .inr ⟨g, cap, _, rfl, hbg, setRow_heap w g cur _ e _ hg, hroom, hcm, ?_, ?_⟩⟩, .inl ⟨g, cap, rfl, rfl, ⟨rfl, rfl, rfl, by simp, fun k _ hk => setRow_other w g k _ (fun e => hk (by simp [e]))⟩⟩⟩
      · simp only [List.size_toArray, List.length_append, List.length_take, List.length_drop, Array.length_toList]
        rw [hsize]
        omega
      · rw [hsize, htake, ← hlen]
        exact List.take_left
    · have holds : ∀ j u, xs[j]? = some u → w.cell? ((⟨g, 0, none⟩ : Addr).add j) = some u := hown.cells (g := g) rfl
      have hr := run_append_grow (P := P) w t ty e i z ht hi hz ⟨g, 0, none⟩ n cap xs (by rw [hsize]; exact hown.1) holds a m c news (by rw [hsize]; exact hl) hnews (by omega) (by omega) (growslice_fits (by omega) hbytes)
      exact ⟨_, _, hr, grown cap (by omega), .inr ⟨rfl, hbel _⟩⟩

theorem wp_append_two {P : Program} (w : World) {o : Oper} {a : Act} {K : Act → World → Prop} {Q : Exit → Act → World → Prop} (s x : Operand) (t : TypeId)
    (ho : o.op = .call { callee := .builtin .append, args := #[s, x], argTypes := #[t, t] })
    (base : Nat) (e : TypeId) (i : TypeInfo) (z : Value) (bytes : Nat) (ht : P.underlying t = some (.slice e)) (hi : P.info? e = some i) (hz : i.zero = some z)
    (hsize : i.size = 1) (hby : i.bytes = bytes) (hzs : z.cells.size = 1)
    (v : Value) (n : Nat) (xs : List Value) (hs : a.eval s = v) (hown : w.ownsRow base e 1 v n xs)
    (ad : Addr) (m c : Nat) (news : List Value) (hx : a.eval x = .slice (some ad) m c) (hm : 0 < m) (hl : news.length = m * 1) (hnews : ∀ j u, news[j]? = some u → w.cell? (ad.add j) = some u) (h1 : ∀ u ∈ news, u.oneCell' = true)
    (h63 : n + m ≤ maxLen) (hbytes : (n + m) * bytes ≤ 140737488355328) (hbase : base ≤ w.heap.size)
    (h : ∀ v' w', w'.ownsRow base e 1 v' (n + m) (xs ++ news) → ((∃ g cap, v = .slice (some ⟨g, 0, none⟩) n cap ∧ v' = .slice (some ⟨g, 0, none⟩) (n + m) cap ∧ w.grownBy w' (some g)) ∨
       (v'.ownBlock = some w.heap.size ∧ Below w.heap.size w w')) → K (a.put o.dst v') w') : o.wp P a w K Q := by
  obtain ⟨v', w', hr, h2, h3⟩ := append_two (P := P) w base t o.type e i z bytes ht hi hz hsize hby hzs v n xs hown ad m c news hm hl hnews h1 h63 hbytes hbase
  unfold Oper.wp execOp
  simp only [ho, resolve, invoke, builtin, Sem.run_bind, Sem.run_pure, Result.andThen_ok, List.map_toArray, List.map_cons, List.map_nil, hs, hx, hr]
  exact h v' w' h2 h3

theorem wpList_append_two {P : Program} (w : World) {ops : Array Oper} {rest : List Oper} {o : Oper} {a : Act} {Q : Exit → Act → World → Prop} (hgd : o.guard = none) (s x : Operand) (t : TypeId)
    (ho : o.op = .call { callee := .builtin .append, args := #[s, x], argTypes := #[t, t] })
    (base : Nat) (e : TypeId) (i : TypeInfo) (z : Value) (bytes : Nat) (ht : P.underlying t = some (.slice e)) (hi : P.info? e = some i) (hz : i.zero = some z)
    (hsize : i.size = 1) (hby : i.bytes = bytes) (hzs : z.cells.size = 1)
    (v : Value) (n : Nat) (xs : List Value) (hs : a.eval s = v) (hown : w.ownsRow base e 1 v n xs)
    (ad : Addr) (m c : Nat) (news : List Value) (hx : a.eval x = .slice (some ad) m c) (hm : 0 < m) (hl : news.length = m * 1) (hnews : ∀ j u, news[j]? = some u → w.cell? (ad.add j) = some u) (h1 : ∀ u ∈ news, u.oneCell' = true)
    (h63 : n + m ≤ maxLen) (hbytes : (n + m) * bytes ≤ 140737488355328) (hbase : base ≤ w.heap.size)
    (h : ∀ v' w', w'.ownsRow base e 1 v' (n + m) (xs ++ news) → ((∃ g cap, v = .slice (some ⟨g, 0, none⟩) n cap ∧ v' = .slice (some ⟨g, 0, none⟩) (n + m) cap ∧ w.grownBy w' (some g)) ∨
       (v'.ownBlock = some w.heap.size ∧ Below w.heap.size w w')) → wpList P ops Q rest (a.put o.dst v') w') : wpList P ops Q (o :: rest) a w :=
  wpList_plain hgd fun _ hK => wp_append_two w s x t ho base e i z bytes ht hi hz hsize hby hzs v n xs hs hown ad m c news hx hm hl hnews h1 h63 hbytes hbase fun v' w' h2 h3 => hK _ _ (h v' w' h2 h3)

theorem two_grown {w w' : World} {n m : Nat} {v v' : Value}
    (hcase : (∃ g cap, v = .slice (some ⟨g, 0, none⟩) n cap ∧ v' = .slice (some ⟨g, 0, none⟩) (n + m) cap ∧ w.grownBy w' (some g)) ∨ (v'.ownBlock = some w.heap.size ∧ Below w.heap.size w w')) : w.grownBy w' v.ownBlock := by
  rcases hcase with ⟨g, cap, rfl, rfl, hg⟩ | ⟨_, hb⟩
  · exact hg
  · exact ⟨hb.os, hb.tape, hb.output, hb.size, fun k hk _ => hb.block k hk⟩
theorem OwnB.of_mark {w : World} {base a n : Nat} {v : Value} (h : w.ownsRow base 5 1 v (n + 1) ((marksB a 0 n).map vb ++ [vb (markB a n)])) : OwnB w base v (marksB a 0 (n + 1)) := by
  rw [marksB_succ, Nat.zero_add]
  apply OwnB.of_push
  rw [marksB_length]
  exact h

/-- Families: index j < N has some owned slices; different indexes never share a block. -/
structure Fam (w : World) (base : Nat) (N : Nat) (F : Nat → List (Value × List UInt8)) : Prop where
  own : ∀ j, j < N → ∀ p ∈ F j, OwnB w base p.1 p.2
  apart : ∀ i j, i < N → j < N → i ≠ j → ∀ p ∈ F i, ∀ q ∈ F j, p.1.ownBlock = none ∨ p.1.ownBlock ≠ q.1.ownBlock

theorem Fam.congr {w : World} {base N : Nat} {F G : Nat → List (Value × List UInt8)} (h : Fam w base N F) (hFG : ∀ j, j < N → G j = F j) : Fam w base N G :=
  ⟨fun j hj p hp => h.own j hj p (by rwa [← hFG j hj]), fun i j hi hj hne p hp q hq => h.apart i j hi hj hne p (by rwa [← hFG i hi]) q (by rwa [← hFG j hj])⟩
theorem Fam.below {w w' : World} {base N : Nat} {F : Nat → List (Value × List UInt8)} (h : Fam w base N F) (hb : Below w.heap.size w w') : Fam w' base N F :=
  ⟨fun j hj p hp => (h.own j hj p hp).below hb, h.apart⟩
theorem Fam.alloc {w : World} {base N : Nat} {F : Nat → List (Value × List UInt8)} (h : Fam w base N F) (o : Obj) : Fam (w.alloc o) base N F :=
  ⟨fun j hj p hp => (h.own j hj p hp).alloc o, h.apart⟩
theorem Fam.drewN {w : World} {base N : Nat} {F : Nat → List (Value × List UInt8)} (h : Fam w base N F) (n : Nat) : Fam (w.drewN n) base N F := ⟨h.own, h.apart⟩
theorem Fam.kept {w w' : World} {base N : Nat} {F : Nat → List (Value × List UInt8)} {row : Option Nat} (h : Fam w base N F) (hg : w.grownBy w' row) (hne : ∀ j, j < N → ∀ p ∈ F j, p.1.ownBlock = none ∨ p.1.ownBlock ≠ row) : Fam w' base N F :=
  ⟨fun j hj p hp => (h.own j hj p hp).kept hg (hne j hj p hp), h.apart⟩

theorem Fam.drew {w : World} {base N : Nat} {F : Nat → List (Value × List UInt8)} (h : Fam w base N F) : Fam w.drew base N F := ⟨h.own, h.apart⟩
theorem Fam.dup {w : World} {base N k : Nat} {p : Value × List UInt8} {F : Nat → List (Value × List UInt8)} (h : Fam w base N F) (hF : F k = [p]) : Fam w base N (fun j => if j = k then [p, p] else F j) := by
  have hm : ∀ j q, q ∈ (if j = k then [p, p] else F j) → q ∈ F j := by
    intro j q hq
    by_cases hj : j = k
    · subst hj; simp at hq; subst hq; rw [hF]; simp
    · simpa [hj] using hq
  exact ⟨fun j hj q hq => h.own j hj q (hm j q hq), fun i j hi hj hne q hq r hr => h.apart i j hi hj hne q (hm i q hq) r (hm j r hr)⟩
theorem rows_ne {w : World} {b b' : Nat} {e e' : TypeId} {v u : Value} {n m : Nat} {xs ys : List Value} (h : w.ownsRow b e 1 v n xs) (h' : w.ownsRow b' e' 1 u m ys) (hne : e ≠ e') : v.ownBlock = none ∨ v.ownBlock ≠ u.ownBlock := by
  rcases h.2 with ⟨rfl, _⟩ | ⟨g, cap, cur, rfl, _, hg, _⟩
  · exact .inl rfl
  rcases h'.2 with ⟨rfl, _⟩ | ⟨g', cap', cur', rfl, _, hg', _⟩
  · exact .inr (by simp [Value.ownBlock])
  · refine .inr (fun e => ?_)
    have : g = g' := by simpa [Value.ownBlock] using e
    subst this
    rw [hg] at hg'
    injection hg' with hg'
    injection hg' with _ h2
    exact hne h2

/-- A store into the only slice of index k. -/
theorem Fam.store {w : World} {base N k g n c : Nat} {l : List UInt8} {F : Nat → List (Value × List UInt8)} (h : Fam w base N F) (hk : k < N) (hF : F k = [(.slice (some ⟨g, 0, none⟩) n c, l)]) (i : Nat) (b : UInt8) :
    Fam (w.setCell ⟨g, i, none⟩ (.int .u8 (b.toNat : Int))) base N (fun j => if j = k then [(.slice (some ⟨g, 0, none⟩) n c, l.set i b)] else F j) := by
  have hmem : ((.slice (some ⟨g, 0, none⟩) n c, l) : Value × List UInt8) ∈ F k := by rw [hF]; simp
  have ho : OwnB w base (.slice (some ⟨g, 0, none⟩) n c) l := h.own k hk _ hmem
  obtain ⟨h1, h2⟩ := ho.stored i b
  refine ⟨fun j hj p hp => ?_, fun i' j hi hj hne p hp q hq => ?_⟩
  · by_cases hjk : j = k
    · simp only [hjk, if_true, List.mem_singleton] at hp
      subst hp
      exact h1
    · simp only [hjk, if_false] at hp
      exact (h.own j hj p hp).kept h2 (h.apart j k hj hk hjk p hp _ hmem)
  · by_cases hik : i' = k
    · have hjk : j ≠ k := fun e => hne (hik.trans e.symm)
      simp only [hik, if_true, List.mem_singleton] at hp
      simp only [hjk, if_false] at hq
      subst hp
      exact h.apart k j hk hj (fun e => hjk e.symm) _ hmem q hq
    · simp only [hik, if_false] at hp
      by_cases hjk : j = k
      · simp only [hjk, if_true, List.mem_singleton] at hq
        subst hq
        exact h.apart i' k hi hk hik p hp (_, l) hmem
      · simp only [hjk, if_false] at hq
        exact h.apart i' j hi hj hne p hp q hq

/-- An append onto one of the slices of index k: a second one of that index, no longer than it, stays. -/
theorem Fam.append {w w' : World} {base N k n m : Nat} {v v' v0 : Value} {l0 l l' : List UInt8} {F : Nat → List (Value × List UInt8)} (h : Fam w base N F) (hk : k < N) (hF : F k = [(v0, l0), (v, l)])
    (hl0 : l0.length ≤ l.length) (hpre : l0 = l.take l0.length) (hpre' : l = l'.take l.length) (hown : OwnB w' base v' l')
    (hcase : (∃ g cap, v = .slice (some ⟨g, 0, none⟩) n cap ∧ v' = .slice (some ⟨g, 0, none⟩) (n + m) cap ∧ w.grownBy w' (some g)) ∨ (v'.ownBlock = some w.heap.size ∧ Below w.heap.size w w')) :
    Fam w' base N (fun j => if j = k then [(v0, l0), (v', l')] else F j) := by
  have ho0 : OwnB w base v0 l0 := h.own k hk (v0, l0) (by rw [hF]; simp)
  have ho1 : OwnB w base v l := h.own k hk (v, l) (by rw [hF]; simp)
  have hlt : ∀ j, j < N → ∀ p ∈ F j, p.1.ownBlock ≠ some w.heap.size := fun j hj p hp e => by
    have := ((h.own j hj p hp).lt _ e).2
    omega
  have hblk : v'.ownBlock = v.ownBlock ∨ v'.ownBlock = some w.heap.size := by
    rcases hcase with ⟨g, cap, rfl, rfl, _⟩ | ⟨h1, _⟩
    · exact .inl rfl
    · exact .inr h1
  have hold : ∀ j, j < N → j ≠ k → ∀ p ∈ F j, OwnB w' base p.1 p.2 := by
    intro j hj hjk p hp
    rcases hcase with ⟨g, cap, rfl, rfl, hg⟩ | ⟨_, hb⟩
    · exact (h.own j hj p hp).kept hg (h.apart j k hj hk hjk p hp (.slice (some ⟨g, 0, none⟩) n cap, l) (by rw [hF]; simp))
    · exact (h.own j hj p hp).below hb
  have h0' : OwnB w' base v0 l0 := by
    rcases hcase with ⟨g, cap, hv, hv', hg⟩ | ⟨_, hb⟩
    · by_cases hb0 : v0.ownBlock = some g
      · refine OwnB.same_block (b := g) ho0 hown ?_ hb0 (by rw [hv']; rfl) ?_ ?_
        · intro e
          have := (ho0.lt g hb0).2
          rw [Array.getElem?_eq_none_iff] at e
          omega
        · intro n0 n1 c0 c1 e0 e1
          subst hv
          rw [hv'] at e1
          rcases ho0.2 with ⟨h', _⟩ | ⟨g0, cap0, cur0, h', _, hgg0, _, _, hs0, _⟩
          · rw [h'] at hb0; simp [Value.ownBlock] at hb0
          rcases ho1.2 with ⟨h1', _⟩ | ⟨g1, cap1, cur1, h1', _, hgg1, _, _, hs1, _⟩
          · cases h1'
          injection h1' with e2 e3 e4
          injection e2 with e2
          injection e2 with e2
          rw [e0] at h'
          injection h' with f2 f3 f4
          injection f2 with f2
          injection f2 with f2
          injection e1 with _ _ e5
          subst e2 f2
          rw [hgg0] at hgg1
          injection hgg1 with hgg1
          injection hgg1 with hgg1
          subst hgg1
          omega
        · rw [hpre]
          have e : l.take l0.length = (l'.take l.length).take l0.length := by rw [← hpre']
          rw [List.length_take, Nat.min_eq_left hl0, e, List.take_take, Nat.min_eq_left hl0]
      · exact ho0.kept hg (.inr hb0)
    · exact ho0.below hb
  refine ⟨fun j hj p hp => ?_, fun i j hi hj hne p hp q hq => ?_⟩
  · by_cases hjk : j = k
    · simp only [hjk, if_true, List.mem_cons, List.not_mem_nil, or_false] at hp
      rcases hp with rfl | rfl
      · exact h0'
      · exact hown
    · simp only [hjk, if_false] at hp
      exact hold j hj hjk p hp
  · by_cases hik : i = k
    · have hjk : j ≠ k := fun e => hne (hik.trans e.symm)
      simp only [hik, if_true, List.mem_cons, List.not_mem_nil, or_false] at hp
      simp only [hjk, if_false] at hq
      rcases hp with rfl | rfl
      · exact h.apart k j hk hj (fun e => hjk e.symm) (v0, l0) (by rw [hF]; simp) q hq
      · rcases hblk with e | e
        · simp only [e]
          exact h.apart k j hk hj (fun e => hjk e.symm) (v, l) (by rw [hF]; simp) q hq
        · simp only [e]
          exact .inr (fun e' => hlt j hj q hq e'.symm)
    · simp only [hik, if_false] at hp
      by_cases hjk : j = k
      · simp only [hjk, if_true, List.mem_cons, List.not_mem_nil, or_false] at hq
        rcases hq with rfl | rfl
        · exact h.apart i k hi hk hik p hp (v0, l0) (by rw [hF]; simp)
        · rcases hblk with e | e
          · simp only [e]
            exact h.apart i k hi hk hik p hp (v, l) (by rw [hF]; simp)
          · simp only [e]
            exact .inr (hlt i hi p hp)
      · simp only [hjk, if_false] at hq
        exact h.apart i j hi hj hne p hp q hq

/-- A list of owned slices, no two on one block. -/
structure Hp (w : World) (base : Nat) (ps : List (Value × List UInt8)) : Prop where
  own : ∀ (i : Nat) p, ps[i]? = some p → OwnB w base p.1 p.2
  apart : ∀ (i j : Nat) p q, i ≠ j → ps[i]? = some p → ps[j]? = some q → p.1.ownBlock = none ∨ p.1.ownBlock ≠ q.1.ownBlock
theorem Hp.nil (w : World) (base : Nat) : Hp w base [] := ⟨fun i p h => by simp at h, fun i j p q _ h => by simp at h⟩
theorem Hp.below {w w' : World} {base : Nat} {ps : List (Value × List UInt8)} (h : Hp w base ps) (hb : Below w.heap.size w w') : Hp w' base ps := ⟨fun i p hp => (h.own i p hp).below hb, h.apart⟩
theorem Hp.push {w w' : World} {base : Nat} {ps : List (Value × List UInt8)} {v : Value} {l : List UInt8} (h : Hp w base ps) (hb : Below w.heap.size w w') (ho : OwnB w' w.heap.size v l) (hs : base ≤ w.heap.size) : Hp w' base (ps ++ [(v, l)]) := by
  have key : ∀ (i : Nat) p, (ps ++ [(v, l)])[i]? = some p → ps[i]? = some p ∨ (i = ps.length ∧ p = (v, l)) := by
    intro i p hp
    rcases Nat.lt_or_ge i ps.length with hi | hi
    · rw [List.getElem?_append_left hi] at hp; exact .inl hp
    · rw [List.getElem?_append_right hi] at hp
      have : i - ps.length = 0 := by
        rcases Nat.eq_zero_or_pos (i - ps.length) with h0 | h0
        · exact h0
        · rw [List.getElem?_eq_none (by simp; omega)] at hp; cases hp
      rw [this] at hp
      simp only [List.getElem?_cons_zero, Option.some.injEq] at hp
      exact .inr ⟨by omega, hp.symm⟩
  have hnew : ∀ (i : Nat) p, ps[i]? = some p → v.ownBlock = none ∨ v.ownBlock ≠ p.1.ownBlock := by
    intro i p hp
    cases hv : v.ownBlock with
    | none => exact .inl rfl
    | some g =>
      refine .inr (fun e => ?_)
      have h1 := (ho.lt g hv).1
      have h2 := ((h.own i p hp).lt g e.symm).2
      omega
  have hnew' : ∀ (i : Nat) p, ps[i]? = some p → p.1.ownBlock = none ∨ p.1.ownBlock ≠ v.ownBlock := by
    intro i p hp
    cases hv : p.1.ownBlock with
    | none => exact .inl rfl
    | some g =>
      refine .inr (fun e => ?_)
      have h1 := (ho.lt g e.symm).1
      have h2 := ((h.own i p hp).lt g hv).2
      omega
  refine ⟨fun i p hp => ?_, fun i j p q hij hp hq => ?_⟩
  · rcases key i p hp with h1 | ⟨_, rfl⟩
    · exact (h.own i p h1).below hb
    · exact ho.more hs
  · rcases key i p hp with h1 | ⟨e1, rfl⟩
    · rcases key j q hq with h2 | ⟨e2, rfl⟩
      · exact h.apart i j p q hij h1 h2
      · exact hnew' i p h1
    · rcases key j q hq with h2 | ⟨e2, rfl⟩
      · exact hnew j q h2
      · exact absurd (e1.trans e2.symm) hij
theorem Hp.over {w w' : World} {base g i : Nat} {ps : List (Value × List UInt8)} {v : Value} {l l' : List UInt8} (h : Hp w base ps) (hi : ps[i]? = some (v, l)) (hv : v.ownBlock = some g) (hg : w.grownBy w' (some g)) (ho : OwnB w' base v l') : Hp w' base (ps.set i (v, l')) := by
  have hlt : i < ps.length := (List.getElem?_eq_some_iff.1 hi).1
  have key : ∀ (j : Nat) p, (ps.set i (v, l'))[j]? = some p → (j ≠ i ∧ ps[j]? = some p) ∨ (j = i ∧ p = (v, l')) := by
    intro j p hp
    by_cases hj : j = i
    · subst hj; rw [List.getElem?_set_self hlt] at hp; injection hp with hp; exact .inr ⟨rfl, hp.symm⟩
    · rw [List.getElem?_set_ne (fun e => hj e.symm)] at hp; exact .inl ⟨hj, hp⟩
  refine ⟨fun j p hp => ?_, fun j k p q hjk hp hq => ?_⟩
  · rcases key j p hp with ⟨hne, h1⟩ | ⟨_, rfl⟩
    · exact (h.own j p h1).kept hg (by have := h.apart j i p _ hne h1 hi; rwa [hv] at this)
    · exact ho
  · rcases key j p hp with ⟨h1, h2⟩ | ⟨rfl, rfl⟩
    · rcases key k q hq with ⟨h3, h4⟩ | ⟨rfl, rfl⟩
      · exact h.apart j k p q hjk h2 h4
      · exact h.apart j k p (v, l) hjk h2 hi
    · rcases key k q hq with ⟨h3, h4⟩ | ⟨e, _⟩
      · exact h.apart j k (v, l) q hjk hi h4
      · exact absurd e.symm hjk
/-- Some of them. -/
theorem Hp.sel {w : World} {base : Nat} {ps qs : List (Value × List UInt8)} (h : Hp w base ps) (is : List Nat) (hn : is.Nodup) (hq : qs.map some = is.map fun i => ps[i]?) : Hp w base qs := by
  have key : ∀ (j : Nat) p, qs[j]? = some p → ∃ i, is[j]? = some i ∧ ps[i]? = some p := by
    intro j p hp
    have h1 : (qs.map some)[j]? = some (some p) := by rw [List.getElem?_map, hp]; rfl
    rw [hq, List.getElem?_map] at h1
    cases hi : is[j]? with
    | none => rw [hi] at h1; cases h1
    | some i => rw [hi] at h1; injection h1 with h1; exact ⟨i, rfl, h1⟩
  refine ⟨fun j p hp => ?_, fun j k p q hjk hp hq' => ?_⟩
  · obtain ⟨i, _, h1⟩ := key j p hp
    exact h.own i p h1
  · obtain ⟨i, hi, h1⟩ := key j p hp
    obtain ⟨i', hi', h2⟩ := key k q hq'
    refine h.apart i i' p q (fun e => hjk ?_) h1 h2
    subst e
    exact (List.getElem?_inj (List.getElem?_eq_some_iff.1 hi).1 hn).1 (hi.trans hi'.symm)

/-- The state of a call: what was there when it began is as it was; its own slices of bytes. -/
structure OSt (w0 w : World) (ps : List (Value × List UInt8)) : Prop where
  low : Below w0.heap.size w0 w
  hp : Hp w w0.heap.size ps
theorem OSt.start (w : World) : OSt w w [] := ⟨Below.refl _ _, Hp.nil _ _⟩
section
variable {w0 w w' : World} {ps : List (Value × List UInt8)}
theorem OSt.call (h : OSt w0 w ps) (hb : Below w.heap.size w w') : OSt w0 w' ps := ⟨h.low.trans (hb.mono h.low.size), h.hp.below hb⟩
theorem OSt.name (h : OSt w0 w ps) : ∃ qs, qs = ps ∧ OSt w0 w qs := ⟨ps, rfl, h⟩
theorem OSt.drewN (h : OSt w0 w ps) (n : Nat) : OSt w0 (w.drewN n) ps := h.call (bdrewN (Below.refl _ _) n)
theorem OSt.drew (h : OSt w0 w ps) : OSt w0 w.drew ps := h.call (Below.refl _ _).drew
theorem OSt.push {v : Value} {l : List UInt8} (h : OSt w0 w ps) (ho : OwnB w' w.heap.size v l) (hb : Below w.heap.size w w') : OSt w0 w' (ps ++ [(v, l)]) := ⟨h.low.trans (hb.mono h.low.size), h.hp.push hb ho h.low.size⟩
theorem OSt.arg {size n : Nat} {A : Option Addr} {xs : List Value} (h : OSt w0 w ps) (hr : Rd w0 size A n xs) : Rd w size A n xs := hr.below h.low
theorem OSt.get {v : Value} {l : List UInt8} (h : OSt w0 w ps) (i : Nat) (hi : ps[i]? = some (v, l)) : OwnB w w0.heap.size v l := h.hp.own i _ hi
theorem OSt.rd {A : Option Addr} {n c : Nat} {l : List UInt8} (h : OSt w0 w ps) (i : Nat) (hi : ps[i]? = some (.slice A n c, l)) : Rd w 1 A n (l.map vb) := by
  have ho := h.get i hi
  have hn := ho.len_eq
  subst hn
  exact Rd.of_own ho
theorem OSt.pre {g N c n : Nat} {l m : List UInt8} (h : OSt w0 w ps) (i : Nat) (hi : ps[i]? = some (.slice (some ⟨g, 0, none⟩) N c, l ++ m)) (hn : l.length = n) : Rd w 1 (some ⟨g, 0, none⟩) n (l.map vb) := by
  subst hn
  exact Rd.of_own (h.get i hi).front
theorem OSt.overs {g n c N : Nat} {l : List UInt8} {w2 : World} (h : OSt w0 w ps) (i : Nat) (hi : ps[i]? = some (.slice (some ⟨g, 0, none⟩) n c, l)) (ho : OwnB w2 w0.heap.size (.slice (some ⟨g, 0, none⟩) n c) (marksB 9 0 N)) (hg : w.grownBy w2 (some g)) : OSt w0 w2 (ps.set i (.slice (some ⟨g, 0, none⟩) n c, marksB 9 0 N)) := by
  have ho1 := h.get i hi
  exact ⟨h.low.grown hg h.low.size (fun k e => by injection e with e; subst e; exact (ho1.lt _ rfl).1), h.hp.over hi rfl hg ho⟩
theorem OSt.over {v : Value} {l l' : List UInt8} {g : Nat} (h : OSt w0 w ps) (i : Nat) (hi : ps[i]? = some (v, l)) (hv : v.ownBlock = some g) (hg : w.grownBy w' (some g)) (ho : OwnB w' w0.heap.size v l') : OSt w0 w' (ps.set i (v, l')) :=
  ⟨h.low.grown hg h.low.size (fun k e => by injection e with e; subst e; exact ((h.get i hi).lt _ hv).1), h.hp.over hi hv hg ho⟩
end
end Go.Proofs.Ythoopaknldkclaa
