/- Texts of this claim, merged: Lib, Row, Sep, Flat, KitB, Rot, Turn, Lay, Made, OpA, Uses, OpE. -/
import Derived.WalkKit
import Derived.WalkSpells
import Derived.WalkLawsBesides
import Derived.Deep.QuietTactic
import Derived.Deep.AppendLies
import Derived.Maps.AppendAt
import Derived.RegionTactic
import Derived.OwnWalk
import Derived.Laws.AppendOwnNone
import Derived.Laws.CopyOwn
import Derived.Deep.RegionLaw
import Derived.Deep.RegionWith
import Derived.Deep.RegionHeld3
import Derived.Deep.DeepFit
import Derived.Deep.DeepCutAuto
import Derived.Deep.Draws
import Derived.BigQuiet
import Derived.StillTailTactics
import Derived.Lib.Hide
import Derived.Test.YtgfhnbjpdhdhgaaRows
import Derived.ProofKit
import Derived.OpenShut
import Derived.ShutString
import Derived.ChangeOld
import Derived.Below
import Derived.SizedLaws
import Derived.Deep.MidRow
import Derived.LoopN
set_option linter.unusedVariables false

namespace Go.Proofs.Ytgfhnbjpdhdhgaa
open Go.RowKit

theorem block_of_add (a : Addr) (n : Nat) : (a.add n).block = a.block := by unfold Addr.add; split <;> rfl
theorem add_of_add (a : Addr) (i j : Nat) : (a.add i).add j = a.add (i + j) := by
  unfold Addr.add
  by_cases hi : i = 0 <;> by_cases hj : j = 0 <;> simp [hi, hj, Nat.add_assoc]

theorem bdrewN {B : Nat} {a w : World} (h : Below B a w) (n : Nat) : Below B a (w.drewN n) := ⟨h.os, h.tape, h.output, h.size, h.block⟩

/-- A slice value '.slice A n c' that reads as the cells xs. -/
def Rd (w : World) (size : Nat) (A : Option Addr) (n : Nat) (xs : List Value) : Prop :=
  xs.length = n * size ∧ (0 < n → ∃ ad, A = some ad ∧ ad.block < w.heap.size ∧ ∀ j u, xs[j]? = some u → w.cell? (ad.add j) = some u)

section
variable {w w' : World} {size n : Nat} {A : Option Addr} {xs : List Value}
theorem Rd.none_ : Rd w size A 0 [] := ⟨by simp, fun h => absurd h (by omega)⟩
theorem Rd.at_ {k : Nat} (h : Rd w 1 A n xs) (hk : k < n) : ∃ ad u, A = some ad ∧ ad.block < w.heap.size ∧ xs[k]? = some u ∧ w.cell? (ad.add k) = some u := by
  obtain ⟨ad, e, hb, hc⟩ := h.2 (by omega)
  have hl : k < xs.length := by have := h.1; omega
  exact ⟨ad, xs[k], e, hb, List.getElem?_eq_getElem hl, hc k _ (List.getElem?_eq_getElem hl)⟩
theorem Rd.keep (h : Rd w size A n xs) (hs : w.heap.size ≤ w'.heap.size) (hk : ∀ p : Addr, p.block < w.heap.size → w'.cell? p = w.cell? p) : Rd w' size A n xs :=
  ⟨h.1, fun hn => by
    obtain ⟨ad, e, hb, hc⟩ := h.2 hn
    exact ⟨ad, e, by omega, fun j u hu => (hk _ (by rw [block_of_add]; exact hb)).trans (hc j u hu)⟩⟩
theorem Rd.below (h : Rd w size A n xs) (hb : Below w.heap.size w w') : Rd w' size A n xs := h.keep hb.size fun _ hp => hb.cell hp
theorem Rd.drewN (h : Rd w size A n xs) (k : Nat) : Rd (w.drewN k) size A n xs := h
theorem Rd.of_own {base c : Nat} {e : TypeId} (h : w.ownsRow base e size (.slice A n c) n xs) : Rd w size A n xs := by
  refine ⟨h.1, fun hn => ?_⟩
  obtain ⟨g, cap, hv, _, hlt⟩ := h.form hn
  have hA : A = some ⟨g, 0, none⟩ := by injection hv
  subst hA
  exact ⟨_, rfl, hlt, h.cells (g := g) rfl⟩
end

theorem Rd.new1 (w : World) (u : Value) (t : TypeId) : Rd ((w.alloc (.cells #[u] t)).drew) 1 (some ⟨w.heap.size, 0, none⟩) 1 [u] :=
  ⟨rfl, fun _ => ⟨_, rfl, by simp, cell_one_new _ _ _⟩⟩
/-- A byte as a value. -/
abbrev vb (b : UInt8) : Value := .int .u8 (b.toNat : Int)
theorem Rd.byteAt {w : World} {A : Option Addr} {n k : Nat} {l : List UInt8} (h : Rd w 1 A n (l.map vb)) (hk : k < n) :
    ∃ ad b, A = some ad ∧ l[k]? = some b ∧ w.cell? (ad.add k) = some (.int .u8 (b.toNat : Int)) := by
  obtain ⟨ad, u, rfl, -, hu, hc⟩ := h.at_ hk
  rw [List.getElem?_map] at hu
  cases hb : l[k]? with
  | none => rw [hb] at hu; cases hu
  | some b => rw [hb] at hu; cases hu; exact ⟨ad, b, rfl, rfl, hc⟩
theorem Rd.byteIn {w : World} {A : Option Addr} {n k : Nat} {l : List UInt8} (h : Rd w 1 A n (l.map vb)) (hk : k < n) :
    ∃ ad b, A = some ad ∧ l[k]? = some b ∧ w.cell? (ad.add k) = some (.int .u8 (b.toNat : Int)) ∧ (ad.add k).block < w.heap.size := by
  obtain ⟨ad, b, rfl, hb, hc⟩ := h.byteAt hk
  obtain ⟨ad', e, hl, -⟩ := h.2 (by omega)
  injection e with e
  subst e
  exact ⟨ad, b, rfl, hb, hc, by rw [block_of_add]; exact hl⟩
theorem Rd.take {w : World} {A : Option Addr} {n k : Nat} {l : List UInt8} (h : Rd w 1 A n (l.map vb)) (hk : k ≤ n) : Rd w 1 A k ((l.take k).map vb) := by
  have hl := h.1
  rw [List.length_map] at hl
  refine ⟨by simp; omega, fun hn => ?_⟩
  obtain ⟨ad, rfl, hb, hc⟩ := h.2 (by omega)
  refine ⟨ad, rfl, hb, fun j u hu => hc j u ?_⟩
  rw [List.map_take, List.getElem?_take] at hu
  split at hu
  · exact hu
  · cases hu
theorem Rd.drew_ {w : World} {size n : Nat} {A : Option Addr} {xs : List Value} (h : Rd w size A n xs) : Rd w.drew size A n xs := h
theorem take_succ_eq {α : Type} {l m : List α} {k : Nat} {x : α} (h : l.take k = m.take k) (hx : l[k]? = some x) (hy : m[k]? = some x) : l.take (k + 1) = m.take (k + 1) := by
  rw [List.take_add_one, List.take_add_one, h, hx, hy]
theorem u8_ne {x y : UInt8} (h : ((x.toNat : Int) != (y.toNat : Int)) = true) : x ≠ y := by
  rintro rfl; simp at h
theorem u8_eq {x y : UInt8} (h : ((x.toNat : Int) != (y.toNat : Int)) = false) : x = y := by
  have h' : (x.toNat : Int) = (y.toNat : Int) := by simpa using h
  exact UInt8.toNat_inj.1 (by omega)
theorem ret_bool {a b : Bool} (h : a = b) : Ending.returned (.bool a) = .returned (.bool b) := by rw [h]
section
variable {P : Program} (w : World)

theorem run_append_of_nil (base : Nat) (t ty e : TypeId) (i : TypeInfo) (size : Nat) (ht : P.underlying t = some (.slice e)) (hi : P.info? e = some i)
    (v : Value) (n : Nat) (xs : List Value) (hown : w.ownsRow base e size v n xs) (c : Nat) : (Builtin.append_ #[t, t] ty #[v, .slice none 0 c]).run P w = .ok v w := by
  rcases hown.2 with ⟨rfl, rfl⟩ | ⟨g, cap, cur, rfl, _, _, hnc, _⟩
  · simp [Builtin.append_, run_underlying ht, sizeOf, typeInfo, hi, Builtin.lenOf, Builtin.firstCells]
  · simp [Builtin.append_, run_underlying ht, sizeOf, typeInfo, hi, Builtin.lenOf, Builtin.firstCells, hnc, storeCells]

theorem run_append_any (base : Nat) (t ty e : TypeId) (i : TypeInfo) (z : Value) (size bytes : Nat) (ht : P.underlying t = some (.slice e)) (hi : P.info? e = some i) (hz : i.zero = some z)
    (hsize : i.size = size) (hby : i.bytes = bytes) (hzs : z.cells.size = size) (hsz : 0 < size)
    (v : Value) (n : Nat) (xs : List Value) (hown : w.ownsRow base e size v n xs)
    (A : Option Addr) (m c : Nat) (news : List Value) (hr : Rd w size A m news) (h1 : ∀ u ∈ news, u.oneCell' = true)
    (h63 : n + m ≤ maxLen) (hbytes : (n + m) * bytes ≤ 140737488355328) (hbase : base ≤ w.heap.size) :
    ∃ v' w', (Builtin.append_ #[t, t] ty #[v, .slice A m c]).run P w = .ok v' w' ∧ w'.ownsRow base e size v' (n + m) (xs ++ news) ∧ w.grownBy w' v.ownBlock ∧
      (v'.ownBlock = v.ownBlock ∨ v'.ownBlock = some w.heap.size) := by
  rcases A with _ | ad
  · have hm : m = 0 := by
      rcases Nat.eq_zero_or_pos m with h0 | h0
      · exact h0
      · obtain ⟨ad, h, _⟩ := hr.2 h0
        cases h
    subst hm
    have hn : news = [] := List.eq_nil_of_length_eq_zero (by simpa using hr.1)
    subst hn
    exact ⟨v, w, run_append_of_nil w base t ty e i size ht hi v n xs hown c, by simpa using hown, World.grownBy.refl w _, .inl rfl⟩
  · have hcells : ∀ j u, news[j]? = some u → w.cell? (ad.add j) = some u := by
      intro j u hu
      rcases Nat.eq_zero_or_pos m with h0 | h0
      · subst h0
        have hn : news = [] := List.eq_nil_of_length_eq_zero (by simpa using hr.1)
        subst hn
        simp at hu
      · obtain ⟨ad', h, _, hc⟩ := hr.2 h0
        injection h with h
        subst h
        exact hc j u hu
    obtain ⟨v', w', hrun, h2, h3, _, h5⟩ := run_append_own_at (P := P) w base t ty e i z size bytes ht hi hz hsize hby hzs hsz v n xs hown ad m c news hr.1 hcells h1 h63 hbytes hbase
    exact ⟨v', w', hrun, h2, h3, h5⟩

theorem wp_append_any {o : Oper} {a : Act} {K : Act → World → Prop} {Q : Exit → Act → World → Prop} (s x : Operand) (t : TypeId)
    (ho : o.op = .call { callee := .builtin .append, args := #[s, x], argTypes := #[t, t] })
    (base : Nat) (e : TypeId) (i : TypeInfo) (z : Value) (size bytes : Nat) (ht : P.underlying t = some (.slice e)) (hi : P.info? e = some i) (hz : i.zero = some z)
    (hsize : i.size = size) (hby : i.bytes = bytes) (hzs : z.cells.size = size) (hsz : 0 < size)
    (v : Value) (n : Nat) (xs : List Value) (hs : a.eval s = v) (hown : w.ownsRow base e size v n xs)
    (A : Option Addr) (m c : Nat) (news : List Value) (hx : a.eval x = .slice A m c) (hr : Rd w size A m news) (h1 : ∀ u ∈ news, u.oneCell' = true)
    (h63 : n + m ≤ maxLen) (hbytes : (n + m) * bytes ≤ 140737488355328) (hbase : base ≤ w.heap.size)
    (h : ∀ v' w', w'.ownsRow base e size v' (n + m) (xs ++ news) → w.grownBy w' v.ownBlock → (v'.ownBlock = v.ownBlock ∨ v'.ownBlock = some w.heap.size) → K (a.put o.dst v') w') : o.wp P a w K Q := by
  obtain ⟨v', w', hrun, h2, h3, h4⟩ := run_append_any (P := P) w base t o.type e i z size bytes ht hi hz hsize hby hzs hsz v n xs hown A m c news hr h1 h63 hbytes hbase
  unfold Oper.wp execOp
  simp only [ho, resolve, invoke, builtin, Sem.run_bind, Sem.run_pure, Result.andThen_ok, List.map_toArray, List.map_cons, List.map_nil, hs, hx, hrun]
  exact h v' w' h2 h3 h4

theorem wpList_append_any {ops : Array Oper} {rest : List Oper} {o : Oper} {a : Act} {Q : Exit → Act → World → Prop} (hgd : o.guard = none) (s x : Operand) (t : TypeId)
    (ho : o.op = .call { callee := .builtin .append, args := #[s, x], argTypes := #[t, t] })
    (base : Nat) (e : TypeId) (i : TypeInfo) (z : Value) (size bytes : Nat) (ht : P.underlying t = some (.slice e)) (hi : P.info? e = some i) (hz : i.zero = some z)
    (hsize : i.size = size) (hby : i.bytes = bytes) (hzs : z.cells.size = size) (hsz : 0 < size)
    (v : Value) (n : Nat) (xs : List Value) (hs : a.eval s = v) (hown : w.ownsRow base e size v n xs)
    (A : Option Addr) (m c : Nat) (news : List Value) (hx : a.eval x = .slice A m c) (hr : Rd w size A m news) (h1 : ∀ u ∈ news, u.oneCell' = true)
    (h63 : n + m ≤ maxLen) (hbytes : (n + m) * bytes ≤ 140737488355328) (hbase : base ≤ w.heap.size)
    (h : ∀ v' w', w'.ownsRow base e size v' (n + m) (xs ++ news) → w.grownBy w' v.ownBlock → (v'.ownBlock = v.ownBlock ∨ v'.ownBlock = some w.heap.size) → wpList P ops Q rest (a.put o.dst v') w') : wpList P ops Q (o :: rest) a w :=
  wpList_plain hgd fun _ hK => wp_append_any w s x t ho base e i z size bytes ht hi hz hsize hby hzs hsz v n xs hs hown A m c news hx hr h1 h63 hbytes hbase fun v' w' h2 h3 h4 => hK _ _ (h v' w' h2 h3 h4)

theorem step_append_any {ops : Array Oper} {o : Oper} {a : Act} {K : Act → World → Prop} {Q : Exit → Act → World → Prop} {E : Prop} (hgd : o.guard = none) (s x : Operand) (t : TypeId)
    (ho : o.op = .call { callee := .builtin .append, args := #[s, x], argTypes := #[t, t] })
    (base : Nat) (e : TypeId) (i : TypeInfo) (z : Value) (size bytes : Nat) (ht : P.underlying t = some (.slice e)) (hi : P.info? e = some i) (hz : i.zero = some z)
    (hsize : i.size = size) (hby : i.bytes = bytes) (hzs : z.cells.size = size) (hsz : 0 < size)
    (v : Value) (n : Nat) (xs : List Value) (hs : a.eval s = v) (hown : w.ownsRow base e size v n xs)
    (A : Option Addr) (m c : Nat) (news : List Value) (hx : a.eval x = .slice A m c) (hr : Rd w size A m news) (h1 : ∀ u ∈ news, u.oneCell' = true)
    (h63 : n + m ≤ maxLen) (hbytes : (n + m) * bytes ≤ 140737488355328) (hbase : base ≤ w.heap.size)
    (h : ∀ v' w', w'.ownsRow base e size v' (n + m) (xs ++ news) → w.grownBy w' v.ownBlock → (v'.ownBlock = v.ownBlock ∨ v'.ownBlock = some w.heap.size) → K (a.put o.dst v') w') :
    if Region.wanted o (yielded ops a.tmps) = true then Oper.wp P o a w K Q else E := by
  have hw : Region.wanted o (yielded ops a.tmps) = true := by simp [Region.wanted, hgd]
  rw [if_pos hw]
  exact wp_append_any w s x t ho base e i z size bytes ht hi hz hsize hby hzs hsz v n xs hs hown A m c news hx hr h1 h63 hbytes hbase h
end
theorem quiet_add {P : Program} {f : FuncId} {args : Array Value} {w : World} {a n : Nat} {v : Value}
    (h : Calls P f args (w.drewN (a + n)) fun e w' => e = .returned v ∧ ∃ m, w' = (w.drewN (a + n)).drewN m) :
    Calls P f args (w.drewN (a + n)) fun e w'' => e = .returned v ∧ ∃ m, w'' = w.drewN (a + m) :=
  h.mono fun _ _ ⟨he, m, hm⟩ => ⟨he, n + m, by rw [hm, World.drewN_drewN, Nat.add_assoc]⟩
theorem quiet_add_same {P : Program} {f : FuncId} {args : Array Value} {w : World} {a n : Nat} {v : Value}
    (h : Calls P f args (w.drewN (a + n)) fun e w' => e = .returned v ∧ w' = w.drewN (a + n)) :
    Calls P f args (w.drewN (a + n)) fun e w'' => e = .returned v ∧ ∃ m, w'' = w.drewN (a + m) :=
  h.mono fun _ _ ⟨he, hm⟩ => ⟨he, n, hm⟩
theorem quiet_add_left {P : Program} {f : FuncId} {args : Array Value} {w : World} {a n : Nat} {v : Value}
    (h : Calls P f args (w.drewN (a + n)) fun e w' => e = .returned v ∧ w.drewN (a + n) = w') :
    Calls P f args (w.drewN (a + n)) fun e w'' => e = .returned v ∧ ∃ m, w'' = w.drewN (a + m) :=
  h.mono fun _ _ ⟨he, hm⟩ => ⟨he, n, hm.symm⟩
theorem quiet_left {P : Program} {f : FuncId} {args : Array Value} {w : World} {n : Nat} {v : Value}
    (h : Calls P f args (w.drewN n) fun e w' => e = .returned v ∧ w.drewN n = w') : Calls P f args (w.drewN n) fun e w'' => e = .returned v ∧ ∃ m, w'' = w.drewN m :=
  h.mono fun _ _ ⟨he, hm⟩ => ⟨he, n, hm.symm⟩
end Go.Proofs.Ytgfhnbjpdhdhgaa

namespace Go.Proofs.Ytgfhnbjpdhdhgaa
open Go.ChangeShapes Go.WideShapes Go.ChangeAt Go.RowKit
open Go.ChangeMaps (open_string shut_string)

theorem rowOwn : ownKnob Try.prog.godebug = none := by kernel_rfl
theorem rowLaid : laidOutB Try.prog = true := by kernel_rfl
theorem rowBytes : Try.prog.bytesOf 5 = 1 := by kernel_rfl
theorem rowCells : Try.prog.cellsOf 5 = 1 := by kernel_rfl

theorem open_bytes {H : Type} {enc : TypeId × Value → H} {W : World} {ts : List TypeId} {ds : List (DataW H)} {d : DataW H} {p : List MemPlace} {j : Nat} {a : Option Addr} {len cap : Nat} {b : Nat} {sp : Nat → Bool} {hd : Bool}
    (hsz : (DataW.weightsEach Try.prog ts ds).all (· ≤ reachBytes) = true) (ht : ts[j]? = some 25) (hdj : ds[j]? = some d)
    (h : DataW.Trod enc Try.prog W b sp hd 25 (.slice a len cap) d p) : ∃ l : List UInt8, Rd W 1 a len (l.map vb) ∧ len ≤ 140737488351232 := by
  obtain ⟨fuel, hf⟩ := h
  rcases open_ints Try.underlying25 Try.underlying5 rowCells hf with ⟨hcs, _⟩ | ⟨x, l, c, zs, hcs, _, hl, hm, hz, hx, hcell, hwz⟩
  · simp [Value.cells] at hcs
    obtain ⟨rfl, rfl, rfl⟩ := hcs
    exact ⟨[], Rd.none_, by omega⟩
  · simp [Value.cells] at hcs
    obtain ⟨rfl, rfl, rfl⟩ := hcs
    injection hx with hx1 hx2
    subst hx1
    have hs := sized_slice hsz ht hdj Try.underlying25
    rw [rowBytes] at hs
    simp only [lits, List.length_map, List.length_take, List.length_drop, reachBytes] at hs
    have hlz : len ≤ zs.length := by rw [hz]; split <;> omega
    have hb : ∀ (i : Nat) (hi : i < zs.length), 0 ≤ zs[i] ∧ zs[i] ≤ 255 := fun i hi => by
      exact bounds_u8 (hwz _ (List.getElem_mem hi))
    refine ⟨(zs.take len).map fun z => UInt8.ofNat z.toNat, ⟨by simp; omega, fun hn => ⟨x, rfl, ?_, fun i u hu => ?_⟩⟩, by omega⟩
    · have h0 := hcell 0 (by omega)
      have := World.block_lt_of_cell? W _ h0
      rwa [block_of_add] at this
    · rw [List.map_map, List.getElem?_map, List.getElem?_take] at hu
      by_cases hi : i < len
      · rw [if_pos hi, List.getElem?_eq_getElem (by omega)] at hu
        simp only [Option.map_some, Function.comp, Option.some.injEq] at hu
        subst hu
        rw [hcell i (by omega), List.getD_eq_getElem?_getD, List.getElem?_eq_getElem (by omega)]
        have h2 := hb i (by omega)
        simp only [Option.getD_some, vb, UInt8.toNat_ofNat', Option.some.injEq, Value.int.injEq, true_and]
        omega
      · rw [if_neg hi] at hu; cases hu

theorem open_cap {H : Type} {enc : TypeId × Value → H} {W : World} {d : DataW H} {p : List MemPlace} {a : Option Addr} {len cap : Nat} {b : Nat} {sp : Nat → Bool} {hd : Bool}
    (h : DataW.Trod enc Try.prog W b sp hd 25 (.slice a len cap) d p) : len ≤ cap := by
  obtain ⟨fuel, hf⟩ := h
  rcases open_ints Try.underlying25 Try.underlying5 rowCells hf with ⟨hcs, _⟩ | ⟨x, l, c, zs, hcs, _, hl, _⟩
  · simp [Value.cells] at hcs
    obtain ⟨rfl, rfl, rfl⟩ := hcs
    exact Nat.le_refl _
  · simp [Value.cells] at hcs
    obtain ⟨rfl, rfl, rfl⟩ := hcs
    exact hl

theorem u64_of {x : Int} (h : (Lit.int .u64 x).wf = true) : ∃ u : UInt64, x = (u.toNat : Int) := by
  have hb : 0 ≤ x ∧ x ≤ 18446744073709551615 := by
    simp [Lit.wf, IntKind.min, IntKind.max, IntKind.signed, IntKind.bits] at h
    omega
  exact ⟨UInt64.ofNat x.toNat, by rw [UInt64.toNat_ofNat']; omega⟩
theorem u32_of {x : Int} (h : (Lit.int .u32 x).wf = true) : ∃ u : UInt32, x = (u.toNat : Int) := by
  have hb : 0 ≤ x ∧ x ≤ 4294967295 := by
    simp [Lit.wf, IntKind.min, IntKind.max, IntKind.signed, IntKind.bits] at h
    omega
  exact ⟨UInt32.ofNat x.toNat, by rw [UInt32.toNat_ofNat']; omega⟩
theorem u8_of {x : Int} (h : (Lit.int .u8 x).wf = true) : ∃ u : UInt8, x = (u.toNat : Int) := by
  have hb := bounds_u8 h
  exact ⟨UInt8.ofNat x.toNat, by rw [UInt8.toNat_ofNat']; omega⟩
theorem i64_of {x : Int} (h : (Lit.int .i64 x).wf = true) : -9223372036854775808 ≤ x ∧ x ≤ 9223372036854775807 := by
  simp [Lit.wf, IntKind.min, IntKind.max, IntKind.signed, IntKind.bits] at h
  omega
end Go.Proofs.Ytgfhnbjpdhdhgaa

namespace Go.Proofs.Ytgfhnbjpdhdhgaa
open Go.RowKit
set_option linter.unusedVariables false

/-- A piece of memory: what holds of a world and of the blocks that are its own. -/
structure Own where
  holds : World → List Nat → Prop
  loc : ∀ {w w' : World} {F : List Nat}, holds w F → (∀ g ∈ F, w'.heap[g]? = w.heap[g]?) → holds w' F
  old : ∀ {w : World} {F : List Nat}, holds w F → ∀ g ∈ F, g < w.heap.size

theorem lt_of_heap {w : World} {g : Nat} {o : Obj} (h : w.heap[g]? = some o) : g < w.heap.size := (Array.getElem?_eq_some_iff.1 h).1

/-- A block known whole. -/
def Own.blk (g : Nat) (T : TypeId) (cs : List Value) : Own where
  holds w F := w.heap[g]? = some (.cells cs.toArray T (0, 0)) ∧ F = [g]
  loc := fun ⟨h, e⟩ k => ⟨by rw [k g (by simp [e])]; exact h, e⟩
  old := fun ⟨h, e⟩ k hk => by rw [e] at hk; simp at hk; subst hk; exact lt_of_heap h

theorem ownsRow_loc {w w' : World} {base : Nat} {e : TypeId} {size n : Nat} {v : Value} {xs : List Value} (h : w.ownsRow base e size v n xs) (k : ∀ g ∈ v.ownBlock.toList, w'.heap[g]? = w.heap[g]?) : w'.ownsRow base e size v n xs := by
  refine ⟨h.1, ?_⟩
  rcases h.2 with hn | ⟨g, cap, cur, rfl, hb, hg, rest⟩
  · exact .inl hn
  · exact .inr ⟨g, cap, cur, rfl, hb, by rw [k g (by simp [Value.ownBlock])]; exact hg, rest⟩
theorem ownsRow_base {w : World} {base base' : Nat} {e : TypeId} {size n : Nat} {v : Value} {xs : List Value} (h : w.ownsRow base e size v n xs) (k : ∀ g ∈ v.ownBlock.toList, base' ≤ g) : w.ownsRow base' e size v n xs := by
  refine ⟨h.1, ?_⟩
  rcases h.2 with hn | ⟨g, cap, cur, rfl, hb, rest⟩
  · exact .inl hn
  · exact .inr ⟨g, cap, cur, rfl, k g (by simp [Value.ownBlock]), rest⟩

/-- A slice of one's own: nil, or the beginning of a block. -/
def Own.row (e : TypeId) (size : Nat) (v : Value) (n : Nat) (xs : List Value) : Own where
  holds w F := w.ownsRow 0 e size v n xs ∧ F = v.ownBlock.toList
  loc := fun ⟨h, e⟩ k => ⟨ownsRow_loc h (by rw [← e]; exact k), e⟩
  old := fun ⟨h, e⟩ k hk => by
    rw [e] at hk
    cases hv : v.ownBlock with
    | none => rw [hv] at hk; simp at hk
    | some g => rw [hv] at hk; simp at hk; subst hk; exact (World.ownsRow.lt h _ hv).2

def Own.emp : Own where
  holds _ F := F = []
  loc := fun h _ => h
  old := fun h k hk => by rw [h] at hk; simp at hk

def Own.sep (A B : Own) : Own where
  holds w F := ∃ G H, F = G ++ H ∧ A.holds w G ∧ B.holds w H ∧ ∀ g ∈ G, g ∉ H
  loc := fun ⟨G, H, e, a, b, d⟩ k => ⟨G, H, e, A.loc a fun g hg => k g (by simp [e, hg]), B.loc b fun g hg => k g (by simp [e, hg]), d⟩
  old := fun ⟨G, H, e, a, b, _⟩ g hg => by rw [e, List.mem_append] at hg; exact hg.elim (A.old a g) (B.old b g)

def Own.ex {α : Type} (A : α → Own) : Own where
  holds w F := ∃ a, (A a).holds w F
  loc := fun ⟨a, h⟩ k => ⟨a, (A a).loc h k⟩
  old := fun ⟨a, h⟩ => (A a).old h

def Own.fact (p : Prop) (A : Own) : Own where
  holds w F := p ∧ A.holds w F
  loc := fun ⟨a, h⟩ k => ⟨a, A.loc h k⟩
  old := fun ⟨_, h⟩ => A.old h

/-- What was there, but for the blocks F0, is as it was. -/
structure Low (w0 : World) (F0 : List Nat) (w : World) : Prop where
  os : w.os = w0.os
  tape : w.tape = w0.tape
  output : w.output = w0.output
  size : w0.heap.size ≤ w.heap.size
  block : ∀ k, k < w0.heap.size → k ∉ F0 → w.heap[k]? = w0.heap[k]?

theorem Low.refl (w : World) (F : List Nat) : Low w F w := ⟨rfl, rfl, rfl, Nat.le_refl _, fun _ _ _ => rfl⟩
theorem Low.trans {a b c : World} {F G : List Nat} (h : Low a F b) (k : Low b G c) (hG : ∀ g ∈ G, g ∈ F ∨ a.heap.size ≤ g) : Low a F c :=
  ⟨k.os.trans h.os, k.tape.trans h.tape, k.output.trans h.output, Nat.le_trans h.size k.size, fun i hi hn => (k.block i (Nat.lt_of_lt_of_le hi h.size) fun m => by
    rcases hG i m with e | e
    · exact hn e
    · omega).trans (h.block i hi hn)⟩
theorem Low.of_below {w w' : World} (h : Below w.heap.size w w') (F : List Nat) : Low w F w' := ⟨h.os, h.tape, h.output, h.size, fun k hk _ => h.block k hk⟩
theorem Low.below {w w' : World} (h : Low w [] w') : Below w.heap.size w w' := ⟨h.os, h.tape, h.output, h.size, fun k hk => h.block k hk (by simp)⟩
theorem Low.of_grown {w w' : World} {row : Option Nat} (h : w.grownBy w' row) : Low w row.toList w' := ⟨h.os, h.tape, h.output, h.size, fun k hk hn => h.block k hk (by cases row <;> simp_all)⟩
theorem Low.setCell (w : World) (a : Addr) (u : Value) : Low w [a.block] (w.setCell a u) := ⟨rfl, rfl, rfl, by simp [World.setCell], fun k _ hn => Below.heap_setCell _ _ _ _ (by simpa using hn)⟩
theorem Low.alloc (w : World) (o : Obj) (F : List Nat) : Low w F (w.alloc o) := .of_below ((Below.refl _ _).alloc (Nat.le_refl _) o) F
theorem Low.more {a b : World} {F G : List Nat} (h : Low a F b) (hG : ∀ g ∈ F, g ∈ G) : Low a G b := ⟨h.os, h.tape, h.output, h.size, fun k hk hn => h.block k hk fun m => hn (hG k m)⟩

abbrev Env := Nat → Option Own
def Env.nil : Env := fun _ => none
def upd (E : Env) (k : Nat) (A : Own) : Env := fun i => if i = k then some A else E i
def del (E : Env) (k : Nat) : Env := fun i => if i = k then none else E i

theorem upd_same {E : Env} {k : Nat} {A : Own} : upd E k A k = some A := by simp [upd]
theorem upd_upd {E : Env} {k : Nat} {A B : Own} : upd (upd E k A) k B = upd E k B := by funext i; by_cases h : i = k <;> simp [upd, h]
theorem upd_id {E : Env} {k : Nat} {A : Own} (h : E k = some A) : upd E k A = E := by funext i; by_cases hi : i = k <;> simp [upd, hi, h]
/-- The state of a walk that began at w0 with the blocks F0 as its own: the pieces of E, apart from one another, all else as it was. -/
structure St (w0 : World) (F0 : List Nat) (w : World) (E : Env) : Prop where
  low : Low w0 F0 w
  own : ∃ Fs : Nat → List Nat, (∀ i A, E i = some A → A.holds w (Fs i) ∧ ∀ g ∈ Fs i, g ∈ F0 ∨ w0.heap.size ≤ g) ∧ ∀ i j A B, i ≠ j → E i = some A → E j = some B → ∀ g ∈ Fs i, g ∉ Fs j

section
variable {w0 w w' : World} {F0 : List Nat} {E : Env}

theorem St.start (w : World) (F : List Nat) : St w F w Env.nil := ⟨Low.refl _ _, fun _ => [], ⟨fun _ _ h => (by cases h), fun _ _ _ _ _ h => (by cases h)⟩⟩

/-- One piece is looked at, and may be exchanged for what has become of it. -/
theorem St.change {A : Own} (H : St w0 F0 w E) (k : Nat) (hk : E k = some A) :
    ∃ F, A.holds w F ∧ (∀ g ∈ F, g ∈ F0 ∨ w0.heap.size ≤ g) ∧ (∀ j B, j ≠ k → E j = some B → ∃ G, B.holds w G ∧ ∀ g ∈ G, g ∉ F) ∧
      ∀ (w' : World) (A' : Own) (F' : List Nat), A'.holds w' F' → Low w F w' → (∀ g ∈ F', g ∈ F ∨ w.heap.size ≤ g) → St w0 F0 w' (upd E k A') := by
  obtain ⟨lo, Fs, h1, h2⟩ := H
  refine ⟨Fs k, (h1 k A hk).1, (h1 k A hk).2, fun j B hj hB => ⟨Fs j, (h1 j B hB).1, h2 j k B A hj hB hk⟩, fun w' A' F' hA' hl hF' => ?_⟩
  have hold : ∀ i B, E i = some B → ∀ g ∈ Fs i, g < w.heap.size := fun i B hB => B.old (h1 i B hB).1
  refine ⟨lo.trans hl (h1 k A hk).2, fun i => if i = k then F' else Fs i, fun i B hB => ?_, fun i j B C hij hB hC g hg => ?_⟩
  · by_cases hi : i = k
    · subst hi
      simp only [upd, if_true, Option.some.injEq] at hB
      subst hB
      simp only [if_true]
      refine ⟨hA', fun g hg => ?_⟩
      rcases hF' g hg with h | h
      · exact (h1 i A hk).2 g h
      · exact .inr (Nat.le_trans lo.size h)
    · simp only [upd, if_neg hi] at hB
      simp only [if_neg hi]
      refine ⟨B.loc (h1 i B hB).1 fun g hg => hl.block g (hold i B hB g hg) (h2 i k B A hi hB hk g hg), (h1 i B hB).2⟩
  · by_cases hi : i = k
    · subst hi
      have hj : j ≠ i := fun e => hij e.symm
      simp only [upd, if_neg hj] at hC
      simp only [if_true] at hg
      simp only [if_neg hj]
      rcases hF' g hg with h | h
      · exact h2 i j A C hij hk hC g h
      · exact fun m => by have := hold j C hC g m; omega
    · simp only [upd, if_neg hi] at hB
      simp only [if_neg hi] at hg
      by_cases hj : j = k
      · subst hj
        simp only [if_true]
        intro m
        rcases hF' g m with h | h
        · exact h2 i j B A hij hB hk g hg h
        · have := hold i B hB g hg; omega
      · simp only [upd, if_neg hj] at hC
        simp only [if_neg hj]
        exact h2 i j B C hij hB hC g hg

theorem St.call (H : St w0 F0 w E) (hb : Below w.heap.size w w') : St w0 F0 w' E := by
  obtain ⟨lo, Fs, h1, h2⟩ := H
  exact ⟨lo.trans (.of_below hb []) (by simp), Fs, fun i B hB => ⟨B.loc (h1 i B hB).1 fun g hg => hb.block g (B.old (h1 i B hB).1 g hg), (h1 i B hB).2⟩, h2⟩
theorem St.drewN (H : St w0 F0 w E) (n : Nat) : St w0 F0 (w.drewN n) E := H.call (bdrewN (Below.refl _ _) n)
theorem St.drew (H : St w0 F0 w E) : St w0 F0 w.drew E := H.call (Below.refl _ _).drew

theorem St.push {A : Own} {F : List Nat} (H : St w0 F0 w E) (k : Nat) (hk : E k = none) (hb : Below w.heap.size w w') (hA : A.holds w' F) (hF : ∀ g ∈ F, w.heap.size ≤ g) : St w0 F0 w' (upd E k A) := by
  obtain ⟨lo, Fs, h1, h2⟩ := H
  have hold : ∀ i B, E i = some B → ∀ g ∈ Fs i, g < w.heap.size := fun i B hB => B.old (h1 i B hB).1
  have hne : ∀ i B, E i = some B → i ≠ k := fun i B hB e => by subst e; rw [hk] at hB; cases hB
  refine ⟨lo.trans (.of_below hb []) (by simp), fun i => if i = k then F else Fs i, fun i B hB => ?_, fun i j B C hij hB hC g hg => ?_⟩
  · by_cases hi : i = k
    · subst hi
      simp only [upd, if_true, Option.some.injEq] at hB
      subst hB
      simp only [if_true]
      exact ⟨hA, fun g hg => .inr (Nat.le_trans lo.size (hF g hg))⟩
    · simp only [upd, if_neg hi] at hB
      simp only [if_neg hi]
      exact ⟨B.loc (h1 i B hB).1 fun g hg => hb.block g (hold i B hB g hg), (h1 i B hB).2⟩
  · by_cases hi : i = k
    · subst hi
      have hj : j ≠ i := fun e => hij e.symm
      simp only [upd, if_neg hj] at hC
      simp only [if_true] at hg
      simp only [if_neg hj]
      exact fun m => by have := hold j C hC g m; have := hF g hg; omega
    · simp only [upd, if_neg hi] at hB
      simp only [if_neg hi] at hg
      by_cases hj : j = k
      · subst hj
        simp only [if_true]
        exact fun m => by have := hold i B hB g hg; have := hF g m; omega
      · simp only [upd, if_neg hj] at hC
        simp only [if_neg hj]
        exact h2 i j B C hij hB hC g hg

/-- fewer pieces are known of -/
theorem St.sub {E' : Env} (H : St w0 F0 w E) (h : ∀ k A, E' k = some A → E k = some A) : St w0 F0 w E' := by
  obtain ⟨lo, Fs, h1, h2⟩ := H
  exact ⟨lo, Fs, fun i A hA => h1 i A (h i A hA), fun i j A B hij hA hB => h2 i j A B hij (h i A hA) (h j B hB)⟩
theorem St.env {E' : Env} (H : St w0 F0 w E) (h : ∀ k, E' k = E k) : St w0 F0 w E' := H.sub fun k A hA => by rw [← h k]; exact hA
theorem St.below {E : Env} (H : St w0 [] w E) : Below w0.heap.size w0 w := H.low.below

/- blocks -/
theorem St.blk {g : Nat} {T : TypeId} {cs : List Value} (H : St w0 F0 w E) (k : Nat) (hk : E k = some (.blk g T cs)) : w.heap[g]? = some (.cells cs.toArray T (0, 0)) := by
  obtain ⟨F, h, -⟩ := H.change k hk
  exact h.1
theorem St.blkIn {g : Nat} {T : TypeId} {cs : List Value} (H : St w0 F0 w E) (k : Nat) (hk : E k = some (.blk g T cs)) : g ∈ F0 ∨ w0.heap.size ≤ g := by
  obtain ⟨F, ⟨-, e⟩, h, -⟩ := H.change k hk
  exact h g (by simp [e])
theorem St.cell {g o : Nat} {T : TypeId} {cs : List Value} {u : Value} (H : St w0 F0 w E) (k : Nat) (hk : E k = some (.blk g T cs)) (hu : cs[o]? = some u) : w.cell? ⟨g, o, none⟩ = some u := by
  rw [cell_of_row w g o _ _ _ (H.blk k hk)]; simpa using hu
theorem St.free {g : Nat} {T : TypeId} {cs : List Value} (H : St w0 F0 w E) (k : Nat) (hk : E k = some (.blk g T cs)) (o : Nat) : w.frozen? ⟨g, o, none⟩ = false := frozen_of_row w g o _ _ (H.blk k hk)
theorem St.lt {g : Nat} {T : TypeId} {cs : List Value} (H : St w0 F0 w E) (k : Nat) (hk : E k = some (.blk g T cs)) : g < w.heap.size := lt_of_heap (H.blk k hk)
theorem St.store {g o : Nat} {T : TypeId} {cs : List Value} {u : Value} (H : St w0 F0 w E) (k : Nat) (hk : E k = some (.blk g T cs)) : St w0 F0 (w.setCell ⟨g, o, none⟩ u) (upd E k (.blk g T (cs.set o u))) := by
  obtain ⟨F, ⟨h, e⟩, -, -, hc⟩ := H.change k hk
  subst e
  refine hc _ _ [g] ⟨?_, rfl⟩ (Low.setCell w ⟨g, o, none⟩ u) (by simp)
  simp only [World.setCell, Array.getElem?_modify, if_true, h]
  simp
theorem St.alloc (H : St w0 F0 w E) (k : Nat) (hk : E k = none) (cs : Array Value) (T : TypeId) : St w0 F0 (w.alloc (.cells cs T)) (upd E k (.blk w.heap.size T cs.toList)) :=
  H.push k hk ((Below.refl _ _).alloc (Nat.le_refl _) _) (F := [w.heap.size]) ⟨by rw [heap_alloc_new], rfl⟩ (by simp)
theorem St.allocAt (H : St w0 F0 w E) (k : Nat) (hk : E k = none) (b : Nat) (hb : b = w.heap.size) (cs : Array Value) (T : TypeId) : St w0 F0 (w.alloc (.cells cs T)) (upd E k (.blk b T cs.toList)) := by
  subst hb; exact H.alloc k hk cs T
theorem St.ne {g g' : Nat} {T T' : TypeId} {cs cs' : List Value} (H : St w0 F0 w E) (k k' : Nat) (hk : E k = some (.blk g T cs)) (hk' : E k' = some (.blk g' T' cs')) (hne : k ≠ k') : g ≠ g' := by
  obtain ⟨F, ⟨-, e⟩, -, hd, -⟩ := H.change k hk
  obtain ⟨G, ⟨-, e'⟩, hd'⟩ := hd k' _ (fun e => hne e.symm) hk'
  subst e e'
  intro h
  exact hd' g' (by simp) (by simp [h])

/- rows -/
variable {e : TypeId} {size n : Nat} {v : Value} {xs : List Value}
theorem St.row (H : St w0 F0 w E) (k : Nat) (hk : E k = some (.row e size v n xs)) : w.ownsRow 0 e size v n xs := by
  obtain ⟨F, h, -⟩ := H.change k hk
  exact h.1
theorem St.rd {A : Option Addr} {c : Nat} (H : St w0 F0 w E) (k : Nat) (hk : E k = some (.row e size (.slice A n c) n xs)) : Rd w size A n xs := Rd.of_own (H.row k hk)
/-- a slice that is read only, and is none of the own ones -/
def RdF (w : World) (F : List Nat) (size : Nat) (A : Option Addr) (n : Nat) (xs : List Value) : Prop := Rd w size A n xs ∧ (0 < n → ∀ ad, A = some ad → ad.block ∉ F)
theorem Rd.rdF {A : Option Addr} (h : Rd w size A n xs) : RdF w [] size A n xs := ⟨h, fun _ _ _ => by simp⟩
theorem RdF.keep {A : Option Addr} {F : List Nat} (h : RdF w0 F size A n xs) (lo : Low w0 F w) : RdF w F size A n xs := by
  refine ⟨⟨h.1.1, fun hn => ?_⟩, h.2⟩
  obtain ⟨ad, rfl, hb, hc⟩ := h.1.2 hn
  refine ⟨ad, rfl, Nat.lt_of_lt_of_le hb lo.size, fun j u hu => ?_⟩
  rw [← hc j u hu]
  exact World.cell?_of_block (lo.block _ (by rw [block_of_add]; exact hb) (by rw [block_of_add]; exact h.2 hn ad rfl))
theorem St.arg {A : Option Addr} (H : St w0 F0 w E) (h : RdF w0 F0 size A n xs) : Rd w size A n xs := (h.keep H.low).1
theorem St.arg0 {A : Option Addr} {E : Env} (H : St w0 [] w E) (h : Rd w0 size A n xs) : Rd w size A n xs := (h.rdF.keep H.low).1

theorem St.pushRow (H : St w0 F0 w E) (k : Nat) (hk : E k = none) (hb : Below w.heap.size w w') (ho : w'.ownsRow w.heap.size e size v n xs) : St w0 F0 w' (upd E k (.row e size v n xs)) :=
  H.push k hk hb (A := .row e size v n xs) ⟨ownsRow_base ho (by simp), rfl⟩ (fun g hg => by
    cases hv : v.ownBlock with
    | none => rw [hv] at hg; simp at hg
    | some g' => rw [hv] at hg; simp at hg; subst hg; exact (World.ownsRow.lt ho _ hv).1)
theorem St.nilRow (H : St w0 F0 w E) (k : Nat) (hk : E k = none) (e : TypeId) (size : Nat) : St w0 F0 w (upd E k (.row e size (.slice none 0 0) 0 [])) :=
  H.pushRow k hk (Below.refl _ _) (World.ownsRow_nil _ _ _ _)
/-- an append (or another law that ends in grownBy) has made of the row another one -/
theorem St.grow {v' : Value} {n' : Nat} {xs' : List Value} (H : St w0 F0 w E) (k : Nat) (hk : E k = some (.row e size v n xs)) (ho : w'.ownsRow 0 e size v' n' xs') (hg : w.grownBy w' v.ownBlock)
    (hat : v'.ownBlock = v.ownBlock ∨ v'.ownBlock = some w.heap.size) : St w0 F0 w' (upd E k (.row e size v' n' xs')) := by
  obtain ⟨F, ⟨h, eF⟩, -, -, hc⟩ := H.change k hk
  subst eF
  refine hc _ _ v'.ownBlock.toList ⟨ho, rfl⟩ (Low.of_grown hg) (fun g hm => ?_)
  rcases hat with h1 | h1
  · rw [h1] at hm; exact .inl hm
  · rw [h1] at hm; simp at hm; subst hm; exact .inr (Nat.le_refl _)
theorem St.rowStore {g c o : Nat} {u : Value} (H : St w0 F0 w E) (k : Nat) (hk : E k = some (.row e size (.slice (some ⟨g, 0, none⟩) n c) n xs)) : St w0 F0 (w.setCell ⟨g, o, none⟩ u) (upd E k (.row e size (.slice (some ⟨g, 0, none⟩) n c) n (xs.set o u))) := by
  have hs := World.ownsRow.stored (H.row k hk) o u
  exact H.grow k hk hs.1 hs.2 (.inl rfl)

/-- Two pieces become one. -/
theorem St.join {A B : Own} (H : St w0 F0 w E) (i j : Nat) (hij : i ≠ j) (hi : E i = some A) (hj : E j = some B) : St w0 F0 w (upd (del E j) i (.sep A B)) := by
  obtain ⟨lo, Fs, h1, h2⟩ := H
  refine ⟨lo, fun m => if m = i then Fs i ++ Fs j else Fs m, fun m C hC => ?_, fun m l C D hml hC hD g hg => ?_⟩
  · by_cases hm : m = i
    · subst hm
      simp only [upd, if_true, Option.some.injEq] at hC
      subst hC
      simp only [if_true]
      exact ⟨⟨Fs m, Fs j, rfl, (h1 m A hi).1, (h1 j B hj).1, h2 m j A B hij hi hj⟩, fun g hg => by
        rw [List.mem_append] at hg; exact hg.elim ((h1 m A hi).2 g) ((h1 j B hj).2 g)⟩
    · have hmj : m ≠ j := fun e => by subst e; simp [upd, del, hm] at hC
      simp only [upd, del, if_neg hm, if_neg hmj] at hC
      simp only [if_neg hm]
      exact h1 m C hC
  · by_cases hm : m = i
    · have hl : l ≠ i := fun e => hml (hm.trans e.symm)
      have hlj : l ≠ j := fun e => by subst e; simp [upd, del, hl] at hD
      simp only [upd, del, if_neg hl, if_neg hlj] at hD
      subst hm
      simp only [if_true, List.mem_append] at hg
      simp only [if_neg hl]
      exact hg.elim (h2 m l A D (fun e => hl e.symm) hi hD g) (h2 j l B D (fun e => hlj e.symm) hj hD g)
    · have hmj : m ≠ j := fun e => by subst e; simp [upd, del, hm] at hC
      simp only [upd, del, if_neg hm, if_neg hmj] at hC
      simp only [if_neg hm] at hg
      by_cases hl : l = i
      · subst hl
        simp only [if_true, List.mem_append]
        exact fun h => h.elim (h2 m l C A hm hC hi g hg) (h2 m j C B hmj hC hj g hg)
      · have hlj : l ≠ j := fun e => by subst e; simp [upd, del, hl] at hD
        simp only [upd, del, if_neg hl, if_neg hlj] at hD
        simp only [if_neg hl]
        exact h2 m l C D hml hC hD g hg
/-- One piece that is two. -/
theorem St.part {A B : Own} (H : St w0 F0 w E) (i j : Nat) (hij : i ≠ j) (hi : E i = some (.sep A B)) (hj : E j = none) : St w0 F0 w (upd (upd E i A) j B) := by
  obtain ⟨lo, Fs, h1, h2⟩ := H
  obtain ⟨⟨G, K, eF, ha, hb, hd⟩, hlo⟩ := h1 i _ hi
  have hG : ∀ g ∈ G, g ∈ Fs i := fun g h => by rw [eF]; simp [h]
  have hK : ∀ g ∈ K, g ∈ Fs i := fun g h => by rw [eF]; simp [h]
  refine ⟨lo, fun m => if m = j then K else if m = i then G else Fs m, fun m C hC => ?_, fun m l C D hml hC hD g hg => ?_⟩
  · by_cases hmj : m = j
    · subst hmj
      simp only [upd, if_true, Option.some.injEq] at hC
      subst hC
      simp only [if_true]
      exact ⟨hb, fun g hg => hlo g (hK g hg)⟩
    · by_cases hmi : m = i
      · subst hmi
        simp only [upd, if_neg hmj, if_true, Option.some.injEq] at hC
        subst hC
        simp only [if_neg hmj, if_true]
        exact ⟨ha, fun g hg => hlo g (hG g hg)⟩
      · simp only [upd, if_neg hmj, if_neg hmi] at hC
        simp only [if_neg hmj, if_neg hmi]
        exact h1 m C hC
  · have key : ∀ m C, m ≠ j → m ≠ i → upd (upd E i A) j B m = some C → E m = some C := fun m C h h' hC => by simpa only [upd, if_neg h, if_neg h'] using hC
    by_cases hmj : m = j
    · have hlj : l ≠ j := fun e => hml (hmj.trans e.symm)
      simp only [hmj, if_true] at hg
      simp only [if_neg hlj]
      by_cases hli : l = i
      · simp only [hli, if_true]; exact fun h => hd g h hg
      · simp only [if_neg hli]; exact h2 i l _ D (fun e => hli e.symm) hi (key l D hlj hli hD) g (hK g hg)
    · by_cases hmi : m = i
      · have hli : l ≠ i := fun e => hml (hmi.trans e.symm)
        simp only [hmi, if_neg hij, if_true] at hg
        by_cases hlj : l = j
        · simp only [hlj, if_true]; exact hd g hg
        · simp only [if_neg hlj, if_neg hli]; exact h2 i l _ D (fun e => hli e.symm) hi (key l D hlj hli hD) g (hG g hg)
      · simp only [if_neg hmj, if_neg hmi] at hg
        have hCm := key m C hmj hmi hC
        by_cases hlj : l = j
        · simp only [hlj, if_true]; exact fun h => h2 m i C _ hmi hCm hi g hg (hK g h)
        · by_cases hli : l = i
          · show g ∉ (if l = j then K else if l = i then G else Fs l); rw [if_neg hlj, if_pos hli]; exact fun h => h2 m i C _ hmi hCm hi g hg (hG g h)
          · simp only [if_neg hlj, if_neg hli]; exact h2 m l C D hml hCm (key l D hlj hli hD) g hg
theorem rd_new (w : World) (us : List Value) (t : TypeId) (size : Nat) (h : us.length = size) : Rd ((w.alloc (.cells us.toArray t)).drew) size (some ⟨w.heap.size, 0, none⟩) 1 us :=
  ⟨by omega, fun _ => ⟨_, rfl, by simp, fun j u hu => by
    rw [Addr.add_mid, Nat.zero_add]
    show (w.alloc (.cells us.toArray t)).cell? _ = _
    rw [World.cell?_alloc_at _ _ _ _ rfl]; simpa using hu⟩⟩
theorem Rd.flat {w : World} {size n : Nat} {A : Option Addr} {xs : List Value} (h : Rd w size A n xs) (hn : 0 < n) (hs : 0 < size) : ∃ b o, A = some ⟨b, o, none⟩ ∧ b < w.heap.size ∧ ∀ j u, xs[j]? = some u → w.cell? ⟨b, o + j, none⟩ = some u := by
  obtain ⟨ad, rfl, hb, hc⟩ := h.2 hn
  have hl : 0 < xs.length := by rw [h.1]; exact Nat.mul_pos hn hs
  have h0 := hc 0 _ (List.getElem?_eq_getElem hl)
  obtain ⟨b, o, sp⟩ := ad
  cases sp with
  | some s => simp [Addr.add, World.cell?] at h0; split at h0 <;> simp at h0
  | none => exact ⟨b, o, rfl, hb, fun j u hu => by rw [← hc j u hu, Addr.add_mid]⟩
/- a walk of its own over one piece, or two -/
def one (A : Own) : Env := upd Env.nil 0 A
def two (A B : Own) : Env := upd (upd Env.nil 0 A) 1 B
theorem St.out {A : Own} {F : List Nat} (H : St w F w' E) (k : Nat) (hk : E k = some A) : ∃ F', A.holds w' F' ∧ Low w F w' ∧ ∀ g ∈ F', g ∈ F ∨ w.heap.size ≤ g := by
  obtain ⟨F', h1, h2, -⟩ := H.change k hk
  exact ⟨F', h1, H.low, h2⟩
theorem St.in1 {A : Own} {F : List Nat} (h : A.holds w F) : St w F w (one A) := by
  refine ⟨Low.refl _ _, fun _ => F, ⟨fun i B hB => ?_, fun i j B C hij hB hC => ?_⟩⟩
  · by_cases hi : i = 0
    · subst hi; simp [one, upd] at hB; subst hB; exact ⟨h, fun g hg => .inl hg⟩
    · simp [one, upd, hi, Env.nil] at hB
  · have h1 : i = 0 := by
      apply Classical.byContradiction; intro hi; simp [one, upd, hi, Env.nil] at hB
    have h2 : j = 0 := by
      apply Classical.byContradiction; intro hj; simp [one, upd, hj, Env.nil] at hC
    omega
theorem St.frame1 {A : Own} (H : St w0 F0 w E) (i : Nat) (hi : E i = some A) :
    ∃ F, St w F w (one A) ∧ (∀ (size : Nat) (A : Option Addr) (n : Nat) (xs : List Value), RdF w F0 size A n xs → (∀ ad, A = some ad → ad.block < w0.heap.size) → RdF w F size A n xs) ∧
      (∀ j B, j ≠ i → E j = some B → ∃ G, B.holds w G ∧ ∀ g ∈ G, g ∉ F) ∧ ∀ (w' : World) (A' : Own), St w F w' (one A') → St w0 F0 w' (upd E i A') := by
  obtain ⟨F, h1, h2, h3, h4⟩ := H.change i hi
  refine ⟨F, St.in1 h1, fun size A n xs hr hlt => ⟨hr.1, fun hn ad e m => ?_⟩, h3, fun w' A' H' => ?_⟩
  · rcases h2 _ m with h | h
    · exact hr.2 hn ad e h
    · have := hlt ad e; omega
  · obtain ⟨F', a, b, c⟩ := H'.out 0 rfl
    exact h4 w' A' F' a b c
theorem St.frame2 {A B : Own} (H : St w0 F0 w E) (i j : Nat) (hij : i ≠ j) (hi : E i = some A) (hj : E j = some B) :
    ∃ F, St w F w (two A B) ∧ (∀ (size : Nat) (A : Option Addr) (n : Nat) (xs : List Value), RdF w F0 size A n xs → (∀ ad, A = some ad → ad.block < w0.heap.size) → RdF w F size A n xs) ∧
      (∀ k C, k ≠ i → k ≠ j → E k = some C → ∃ G, C.holds w G ∧ ∀ g ∈ G, g ∉ F) ∧ ∀ (w' : World) (A' B' : Own), St w F w' (two A' B') → St w0 F0 w' (upd (upd E i A') j B') := by
  obtain ⟨F, H1, h2, h3, h4⟩ := (H.join i j hij hi hj).frame1 (A := .sep A B) i (by simp [upd])
  have hne : j ≠ i := fun e => hij e.symm
  refine ⟨F, ((H1.part 0 1 (by omega) rfl rfl).env fun k => ?_), h2, fun k C hki hkj hC => h3 k C hki (by simp only [upd, del, if_neg hki, if_neg hkj]; exact hC), fun w' A' B' H' => ?_⟩
  · simp only [two, one, upd]; split <;> (try split) <;> rfl
  · have H2 := h4 w' (.sep A' B') ((H'.join 0 1 (by omega) rfl rfl).env fun k => by
      simp only [two, one, upd, del, Env.nil]
      by_cases h0 : k = 0
      · simp [h0]
      · by_cases h1 : k = 1
        · simp [h1]
        · simp [h0, h1])
    refine (H2.part (A := A') (B := B') i j hij (by simp [upd]) (by simp [upd, del, hne])).env fun k => ?_
    simp only [upd, del]
    by_cases hk : k = j
    · simp [hk]
    · by_cases hk' : k = i <;> simp [hk, hk']
theorem St.openEx {α : Type} {A : α → Own} (H : St w0 F0 w E) (i : Nat) (hi : E i = some (.ex A)) : ∃ a, St w0 F0 w (upd E i (A a)) := by
  obtain ⟨F, ⟨a, h⟩, -, -, h4⟩ := H.change i hi
  exact ⟨a, h4 w (A a) F h (Low.refl _ _) fun g hg => .inl hg⟩
theorem St.shutEx {α : Type} {A : α → Own} (a : α) (H : St w0 F0 w E) (i : Nat) (hi : E i = some (A a)) : St w0 F0 w (upd E i (.ex A)) := by
  obtain ⟨F, h, -, -, h4⟩ := H.change i hi
  exact h4 w (.ex A) F ⟨a, h⟩ (Low.refl _ _) fun g hg => .inl hg
theorem St.openFact {p : Prop} {A : Own} (H : St w0 F0 w E) (i : Nat) (hi : E i = some (.fact p A)) : p ∧ St w0 F0 w (upd E i A) := by
  obtain ⟨F, ⟨a, h⟩, -, -, h4⟩ := H.change i hi
  exact ⟨a, h4 w A F h (Low.refl _ _) fun g hg => .inl hg⟩
theorem St.shutFact {p : Prop} {A : Own} (a : p) (H : St w0 F0 w E) (i : Nat) (hi : E i = some A) : St w0 F0 w (upd E i (.fact p A)) := by
  obtain ⟨F, h, -, -, h4⟩ := H.change i hi
  exact h4 w (.fact p A) F ⟨a, h⟩ (Low.refl _ _) fun g hg => .inl hg
theorem St.nothing (H : St w0 F0 w E) (k : Nat) (hk : E k = none) : St w0 F0 w (upd E k .emp) := H.push k hk (Below.refl _ _) (A := .emp) rfl (by simp)
/-- pieces by their places in a list -/
def lay (L : List Own) : Env := fun i => L[i]?
theorem St.upd_mk {L : List Own} {k : Nat} {A : Own} (H : St w0 F0 w (upd (lay L) k A)) (h : k < L.length) : St w0 F0 w (lay (L.set k A)) :=
  H.env fun i => by
    simp only [lay, upd]
    by_cases hi : i = k
    · subst hi; simp [h]
    · rw [List.getElem?_set_ne (fun e => hi e.symm), if_neg hi]
theorem St.push_mk {L : List Own} {k : Nat} {A : Own} (H : St w0 F0 w (upd (lay L) k A)) (h : k = L.length) : St w0 F0 w (lay (L ++ [A])) :=
  H.env fun i => by
    subst h
    simp only [lay, upd]
    by_cases hi : i = L.length
    · subst hi; simp
    · rw [if_neg hi]
      rcases Nat.lt_or_ge i L.length with h1 | h1
      · rw [List.getElem?_append_left h1]
      · rw [List.getElem?_eq_none (by simp; omega), List.getElem?_eq_none h1]
theorem St.as1 {A : Own} (H : St w0 F0 w (one A)) : St w0 F0 w (lay [A]) := H.env fun i => by
  cases i with
  | zero => rfl
  | succ i => simp [lay, one, upd, Env.nil]
theorem St.as2 {A B : Own} (H : St w0 F0 w (two A B)) : St w0 F0 w (lay [A, B]) := H.env fun i => by
  match i with
  | 0 => rfl
  | 1 => rfl
  | i + 2 => simp [lay, two, upd, Env.nil]
theorem St.to1 {L : List Own} {A : Own} (H : St w0 F0 w (lay L)) (h : L[0]? = some A) : St w0 F0 w (one A) := H.sub fun k B hB => by
  by_cases hk : k = 0
  · subst hk; simp only [one, upd, if_true] at hB; rw [← hB]; exact h
  · simp [one, upd, hk, Env.nil] at hB
theorem St.to2 {L : List Own} {A B : Own} (H : St w0 F0 w (lay L)) (h : L[0]? = some A) (h' : L[1]? = some B) : St w0 F0 w (two A B) := H.sub fun k C hC => by
  match k with
  | 0 => rw [show two A B 0 = some A from rfl] at hC; rw [← hC]; exact h
  | 1 => rw [show two A B 1 = some B from rfl] at hC; rw [← hC]; exact h'
  | k + 2 => simp [two, upd, Env.nil] at hC
theorem St.start_lay (w : World) (F : List Nat) : St w F w (lay []) := (St.start w F).env fun i => by simp [lay, Env.nil]
theorem St.front {L : List Own} (n : Nat) (H : St w0 F0 w (lay L)) : St w0 F0 w (lay (L.take n)) := H.sub fun k A h => by
  simp only [lay, List.getElem?_take] at h ⊢
  split at h
  · exact h
  · cases h
theorem absorb_wp {P : Program} {c : Code} {Q : Exit → Act → World → Prop} {a : Act} (H : St w0 F0 w E) (h : ∀ w', St w0 F0 w' E → c.wp P Q a w') : c.wp P Q a w := h w H
theorem absorb_list {P : Program} {ops : Array Oper} {l : List Oper} {Q : Exit → Act → World → Prop} {a : Act} (H : St w0 F0 w E) (h : ∀ w', St w0 F0 w' E → wpList P ops Q l a w') : wpList P ops Q l a w := h w H
theorem absorb_calls {P : Program} {f : FuncId} {args : Array Value} {R : Ending → World → Prop} (H : St w0 F0 w E) (h : ∀ w', St w0 F0 w' E → Calls P f args w' R) : Calls P f args w R := h w H
/-- a value of all its cells goes into a block -/
theorem St.there {g : Nat} {T : TypeId} {cs : List Value} (H : St w0 F0 w E) (k : Nat) (hk : E k = some (.blk g T cs)) : w.there g 0 cs.length := fun j hj => by
  rw [Nat.zero_add]
  exact ⟨by rw [H.cell k hk (List.getElem?_eq_getElem hj)]; rfl, H.free k hk j⟩
theorem St.range {g : Nat} {T : TypeId} {cs : List Value} (H : St w0 F0 w E) (k : Nat) (hk : E k = some (.blk g T cs)) : w.rangeAt g 0 cs := fun j v hv => by
  rw [Nat.zero_add]; exact H.cell k hk hv
theorem setCells_heap (vs : List Value) : ∀ (w : World) (g o : Nat) (T : TypeId) (C : List Value), w.heap[g]? = some (.cells C.toArray T (0, 0)) → o + vs.length ≤ C.length →
    (w.setCells g o vs).heap[g]? = some (.cells (C.take o ++ vs ++ C.drop (o + vs.length)).toArray T (0, 0)) := by
  induction vs with
  | nil => intro w g o T C h hl; simpa [World.setCells] using h
  | cons v vs ih =>
    intro w g o T C h hl
    simp only [List.length_cons] at hl
    have h1 := heap_setCell_same w g o C.toArray T v h
    have h2 := ih (w.setCell ⟨g, o, none⟩ v) g (o + 1) T (C.set o v) (by simpa using h1) (by simp; omega)
    show ((w.setCell ⟨g, o, none⟩ v).setCells g (o + 1) vs).heap[g]? = _
    rw [h2]
    congr 3
    rw [List.take_add_one, List.take_set_of_le (by omega), List.getElem?_set_self (by omega), List.drop_set_of_lt (by omega)]
    simp [Nat.add_assoc, Nat.add_comm 1]
theorem setCells_low (vs : List Value) : ∀ (w : World) (g o : Nat), Low w [g] (w.setCells g o vs) := by
  induction vs with
  | nil => intro w g o; exact Low.refl _ _
  | cons v vs ih => intro w g o; exact (Low.setCell w ⟨g, o, none⟩ v).trans (ih _ g (o + 1)) (by simp)
theorem St.storeAll {g : Nat} {T : TypeId} {cs vs : List Value} (H : St w0 F0 w E) (k : Nat) (hk : E k = some (.blk g T cs)) (hl : vs.length = cs.length) : St w0 F0 (w.setCells g 0 vs) (upd E k (.blk g T vs)) := by
  obtain ⟨F, ⟨h, e⟩, -, -, hc⟩ := H.change k hk
  subst e
  refine hc _ _ [g] ⟨?_, rfl⟩ (setCells_low vs w g 0) (by simp)
  rw [setCells_heap vs w g 0 T cs h (by omega)]
  simp [hl]
end

section
variable {w0 w : World} {F0 : List Nat} {E : Env}
theorem St.setRow {g : Nat} {T : TypeId} {cs vs : List Value} (H : St w0 F0 w E) (k : Nat) (hk : E k = some (.blk g T cs)) : St w0 F0 (w.setRow g vs.toArray) (upd E k (.blk g T vs)) := by
  obtain ⟨F, ⟨h, e⟩, -, -, hc⟩ := H.change k hk
  subst e
  exact hc _ _ [g] ⟨setRow_heap w g _ _ T _ h, rfl⟩ ⟨rfl, rfl, rfl, by simp [World.setRow], fun i hi hn => setRow_other w g i _ (by simpa using hn)⟩ (by simp)

theorem wp_copy_st {P : Program} {o : Oper} {a : Act} {K : Act → World → Prop} {Q : Exit → Act → World → Prop} (d s : Operand) (dT sT : TypeId)
    (ho : o.op = .call { callee := .builtin .copy, args := #[d, s], argTypes := #[dT, sT] }) (elem : TypeId) (hu : P.underlying dT = some (.slice elem)) (hsz : (P.info? elem).map (·.size) = some 1)
    (dp sp : Option Addr) (dLen dCap sLen sCap : Nat) (hd : a.eval d = .slice dp dLen dCap) (hs : a.eval s = .slice sp sLen sCap)
    (H : St w0 F0 w E) (k g off : Nat) (T : TypeId) (cur : List Value) (hk : E k = some (.blk g T cur)) (cs : List Value) (hn : cs.length = Nat.min sLen dLen)
    (hpos : 0 < cs.length → dp = some ⟨g, off, none⟩ ∧ ∃ ad, sp = some ad ∧ ∀ j v, cs[j]? = some v → w.cell? (ad.add j) = some v)
    (hfit : off + cs.length ≤ cur.length) (h1 : ∀ v ∈ cs, v.oneCell' = true)
    (h : ∀ w', St w0 F0 w' (upd E k (.blk g T (splice cur off cs))) → K (a.put o.dst (.int .i64 (cs.length : Int))) w') : o.wp P a w K Q := by
  by_cases h0 : cs.length = 0
  · obtain rfl : cs = [] := List.eq_nil_of_length_eq_zero h0
    have hrun := run_copy_none (P := P) w dT sT o.type elem dp sp dLen dCap sLen sCap hu hsz (by simpa using hn.symm)
    unfold Oper.wp
    simp [execOp, ho, resolve, invoke, builtin, hd, hs, hrun, Result.andThen]
    have h2 := h w (by rw [show splice cur off [] = cur from by simp [splice], upd_id hk]; exact H)
    exact h2
  · obtain ⟨rfl, ad, rfl, hsrc⟩ := hpos (by omega)
    have hrun := run_copy_row (P := P) w dT sT o.type elem g off dLen dCap ad sLen sCap cur.toArray T cs hu hsz (H.blk k hk) hn hsrc (by simpa using hfit) h1
    unfold Oper.wp
    simp [execOp, ho, resolve, invoke, builtin, hd, hs, hrun, Result.andThen]
    have h2 := h _ (H.setRow (vs := splice cur off cs) k hk)
    rw [show splice cur off cs = cur.take off ++ (cs ++ cur.drop (off + cs.length)) from rfl] at h2

    exact h2
theorem wpList_copy_st {P : Program} {ops : Array Oper} {rest : List Oper} {o : Oper} {a : Act} {Q : Exit → Act → World → Prop} (hgd : o.guard = none) (d s : Operand) (dT sT : TypeId)
    (ho : o.op = .call { callee := .builtin .copy, args := #[d, s], argTypes := #[dT, sT] }) (elem : TypeId) (hu : P.underlying dT = some (.slice elem)) (hsz : (P.info? elem).map (·.size) = some 1)
    (dp sp : Option Addr) (dLen dCap sLen sCap : Nat) (hd : a.eval d = .slice dp dLen dCap) (hs : a.eval s = .slice sp sLen sCap)
    (H : St w0 F0 w E) (k g off : Nat) (T : TypeId) (cur : List Value) (hk : E k = some (.blk g T cur)) (cs : List Value) (hn : cs.length = Nat.min sLen dLen)
    (hpos : 0 < cs.length → dp = some ⟨g, off, none⟩ ∧ ∃ ad, sp = some ad ∧ ∀ j v, cs[j]? = some v → w.cell? (ad.add j) = some v)
    (hfit : off + cs.length ≤ cur.length) (h1 : ∀ v ∈ cs, v.oneCell' = true)
    (h : ∀ w', St w0 F0 w' (upd E k (.blk g T (splice cur off cs))) → wpList P ops Q rest (a.put o.dst (.int .i64 (cs.length : Int))) w') : wpList P ops Q (o :: rest) a w :=
  wpList_plain hgd fun K hK => wp_copy_st d s dT sT ho elem hu hsz dp sp dLen dCap sLen sCap hd hs H k g off T cur hk cs hn hpos hfit h1 fun w' h' => hK _ _ (h w' h')
theorem step_copy_st {P : Program} {ops : Array Oper} {o : Oper} {a : Act} {K : Act → World → Prop} {Q : Exit → Act → World → Prop} {X : Prop} (hgd : o.guard = none) (d s : Operand) (dT sT : TypeId)
    (ho : o.op = .call { callee := .builtin .copy, args := #[d, s], argTypes := #[dT, sT] }) (elem : TypeId) (hu : P.underlying dT = some (.slice elem)) (hsz : (P.info? elem).map (·.size) = some 1)
    (dp sp : Option Addr) (dLen dCap sLen sCap : Nat) (hd : a.eval d = .slice dp dLen dCap) (hs : a.eval s = .slice sp sLen sCap)
    (H : St w0 F0 w E) (k g off : Nat) (T : TypeId) (cur : List Value) (hk : E k = some (.blk g T cur)) (cs : List Value) (hn : cs.length = Nat.min sLen dLen)
    (hpos : 0 < cs.length → dp = some ⟨g, off, none⟩ ∧ ∃ ad, sp = some ad ∧ ∀ j v, cs[j]? = some v → w.cell? (ad.add j) = some v)
    (hfit : off + cs.length ≤ cur.length) (h1 : ∀ v ∈ cs, v.oneCell' = true)
    (h : ∀ w', St w0 F0 w' (upd E k (.blk g T (splice cur off cs))) → K (a.put o.dst (.int .i64 (cs.length : Int))) w') :
    if Region.wanted o (yielded ops a.tmps) = true then Oper.wp P o a w K Q else X := by
  rw [if_pos (by simp [Region.wanted, hgd])]
  exact wp_copy_st d s dT sT ho elem hu hsz dp sp dLen dCap sLen sCap hd hs H k g off T cur hk cs hn hpos hfit h1 h
end
theorem run_index_agg {P : Program} (ty e : TypeId) (len : Nat) (cs : Array Value) (k : Nat) (v : Value) (ht : P.underlying ty = some (.array len e)) (hs : (P.info? e).map (·.size) = some 1) (ha : ∀ w, (isAgg e).run P w = .ok false w) (hk : k < len) (hv : cs[k]? = some v) (w : World) :
    (Instr.index ty (.agg cs) (.int .i64 (k : Int))).run P w = .ok v w := by
  cases hi : P.info? e with
  | none => simp [hi] at hs
  | some i =>
    have h1 : i.size = 1 := by simpa [hi] using hs
    unfold Instr.index
    simp [asIntOf, run_underlying ht, hk, sizeOf, typeInfo, hi, h1, part, ha, hv]
end Go.Proofs.Ytgfhnbjpdhdhgaa

namespace Go.Proofs.Ytgfhnbjpdhdhgaa
open Go.RowKit
set_option linter.unusedVariables false

section
variable {α : Type} {f : α → List Value} {s : Nat}
theorem flat_length (hf : ∀ a, (f a).length = s) (l : List α) : (l.flatMap f).length = l.length * s := by
  induction l with
  | nil => simp
  | cons a l ih => rw [List.flatMap_cons, List.length_append, ih, hf, List.length_cons, Nat.add_mul]; omega
theorem flat_get (hf : ∀ a, (f a).length = s) (l : List α) (i j : Nat) (a : α) (hi : l[i]? = some a) (hj : j < s) : (l.flatMap f)[i * s + j]? = (f a)[j]? := by
  induction l generalizing i with
  | nil => simp at hi
  | cons b l ih =>
    rw [List.flatMap_cons]
    cases i with
    | zero =>
      simp at hi; subst hi
      rw [List.getElem?_append_left (by rw [hf]; omega)]; simp
    | succ i =>
      rw [List.getElem?_append_right (by rw [hf, Nat.add_mul]; omega), hf, show (i + 1) * s + j - s = i * s + j by rw [Nat.add_mul]; omega]
      exact ih i (by simpa using hi)
theorem flat_one {Q : Value → Prop} (h : ∀ a, ∀ u ∈ f a, Q u) (l : List α) : ∀ u ∈ l.flatMap f, Q u := by
  intro u hu
  obtain ⟨a, -, ha⟩ := List.mem_flatMap.1 hu
  exact h a u ha
theorem Rd.takeF {w : World} {A : Option Addr} {n k : Nat} {l : List α} (hf : ∀ a, (f a).length = s) (hs : 0 < s) (h : Rd w s A n (l.flatMap f)) (hk : k ≤ n) : Rd w s A k ((l.take k).flatMap f) := by
  have hl := h.1
  rw [flat_length hf] at hl
  have hln : l.length = n := Nat.eq_of_mul_eq_mul_right hs hl
  refine ⟨by rw [flat_length hf, List.length_take, hln, Nat.min_eq_left hk], fun hn => ?_⟩
  obtain ⟨ad, rfl, hb, hc⟩ := h.2 (by omega)
  refine ⟨ad, rfl, hb, fun j u hu => hc j u ?_⟩
  have hj : j < ((l.take k).flatMap f).length := (List.getElem?_eq_some_iff.1 hu).1
  rw [← List.take_append_drop k l, List.flatMap_append, List.getElem?_append_left hj]
  exact hu
end
/-- a row of the call's own, at its end -/
theorem St.ownRow {w0 w : World} {E : Env} {e : TypeId} {size n : Nat} {v : Value} {xs : List Value} (H : St w0 [] w E) (k : Nat) (hk : E k = some (.row e size v n xs)) : w.ownsRow w0.heap.size e size v n xs := by
  obtain ⟨F, ⟨h1, h2⟩, -, h4⟩ := H.out k hk
  refine ownsRow_base h1 fun g hg => ?_
  rcases h4 g (by rw [h2]; exact hg) with h | h
  · simp at h
  · exact h
theorem row_form {w : World} {e : TypeId} {size n : Nat} {v : Value} {xs : List Value} (h : w.ownsRow 0 e size v n xs) : ∃ A c, v = .slice A n c ∧ n ≤ c ∧ (0 < n → ∃ g, A = some ⟨g, 0, none⟩ ∧ g < w.heap.size) := by
  rcases h.2 with ⟨rfl, rfl⟩ | ⟨g, cap, cur, rfl, _, hg, hc, _⟩
  · exact ⟨_, _, rfl, by omega, fun h => by omega⟩
  · exact ⟨_, _, rfl, hc, fun _ => ⟨g, rfl, lt_of_heap hg⟩⟩
theorem rd_new0 (w : World) (us : List Value) (t : TypeId) (size : Nat) (h : us.length = size) : Rd (w.alloc (.cells us.toArray t)) size (some ⟨w.heap.size, 0, none⟩) 1 us :=
  ⟨by omega, fun _ => ⟨_, rfl, by simp, fun j u hu => by
    rw [Addr.add_mid, Nat.zero_add, World.cell?_alloc_at _ _ _ _ rfl]; simpa using hu⟩⟩
/-- some of the pieces, under other numbers -/
theorem St.pick {w0 w : World} {F0 : List Nat} {E E' : Env} (H : St w0 F0 w E) (f : Nat → Nat) (hf : ∀ i j, f i = f j → i = j) (h : ∀ k A, E' k = some A → E (f k) = some A) : St w0 F0 w E' := by
  obtain ⟨lo, Fs, h1, h2⟩ := H
  exact ⟨lo, fun k => Fs (f k), fun i A hA => h1 (f i) A (h i A hA), fun i j A B hij hA hB => h2 (f i) (f j) A B (fun e => hij (hf i j e)) (h i A hA) (h j B hB)⟩
/-- what a call has made, beside what there was -/
theorem St.also {w0 w w' : World} {F0 : List Nat} {L1 L2 : List Own} (H : St w0 F0 w (lay L1)) (HN : St w [] w' (lay L2)) : St w0 F0 w' (lay (L1 ++ L2)) := by
  obtain ⟨lo, Fs, h1, h2⟩ := H
  obtain ⟨lo', Gs, k1, k2⟩ := HN
  have look : ∀ i A, lay (L1 ++ L2) i = some A → (i < L1.length ∧ lay L1 i = some A) ∨ (L1.length ≤ i ∧ lay L2 (i - L1.length) = some A) := by
    intro i A hA
    simp only [lay] at hA ⊢
    rcases Nat.lt_or_ge i L1.length with h | h
    · rw [List.getElem?_append_left h] at hA; exact .inl ⟨h, hA⟩
    · rw [List.getElem?_append_right h] at hA; exact .inr ⟨h, hA⟩
  refine ⟨lo.trans lo' (by simp), fun i => if i < L1.length then Fs i else Gs (i - L1.length), fun i A hA => ?_, fun i j A B hij hA hB g hg => ?_⟩
  · rcases look i A hA with ⟨hi, h⟩ | ⟨hi, h⟩
    · simp only [if_pos hi]
      exact ⟨A.loc (h1 i A h).1 fun g hg => lo'.block g (A.old (h1 i A h).1 g hg) (by simp), (h1 i A h).2⟩
    · simp only [if_neg (Nat.not_lt.2 hi)]
      exact ⟨(k1 _ A h).1, fun g hg => .inr (by
        rcases (k1 _ A h).2 g hg with e | e
        · simp at e
        · exact Nat.le_trans lo.size e)⟩
  · rcases look i A hA with ⟨hi, h⟩ | ⟨hi, h⟩ <;> rcases look j B hB with ⟨hj, h'⟩ | ⟨hj, h'⟩
    · simp only [if_pos hi] at hg
      simp only [if_pos hj]
      exact h2 i j A B hij h h' g hg
    · simp only [if_pos hi] at hg
      simp only [if_neg (Nat.not_lt.2 hj)]
      intro m
      have := A.old (h1 i A h).1 g hg
      rcases (k1 _ B h').2 g m with e | e
      · simp at e
      · omega
    · simp only [if_neg (Nat.not_lt.2 hi)] at hg
      simp only [if_pos hj]
      intro m
      have := B.old (h1 j B h').1 g m
      rcases (k1 _ A h).2 g hg with e | e
      · simp at e
      · omega
    · simp only [if_neg (Nat.not_lt.2 hi)] at hg
      simp only [if_neg (Nat.not_lt.2 hj)]
      exact k2 _ _ A B (by omega) h h' g hg
theorem lay1_of {A B : Own} {L : List Own} (h : L = A :: B :: []) : ∀ k C, lay [A] k = some C → lay L k = some C := by
  subst h
  intro k C hC
  match k with
  | 0 => exact hC
  | k + 1 => simp [lay] at hC
end Go.Proofs.Ytgfhnbjpdhdhgaa

namespace Go.Proofs.Ytgfhnbjpdhdhgaa
open Go.RowKit

set_option maxHeartbeats 400000 in
theorem sameBytes_any (A B : Option Addr) (n m c d : Nat) (xs ys : List UInt8) (w : World) (ha : Rd w 1 A n (xs.map vb)) (hb : Rd w 1 B m (ys.map vb)) (hn : n ≤ 9223372036854775807) (hm : m ≤ 9223372036854775807) :
    Calls Try.prog 30 #[.slice A n c, .slice B m d] w fun e w' => e = .returned (.bool (decide (xs = ys))) ∧ ∃ k, w' = w.drewN k := by
  have hlx : xs.length = n := by simpa using ha.1
  have hly : ys.length = m := by simpa using hb.1
  have Hx := Lib.hid hlx
  have Hy := Lib.hid hly
  clear hlx hly
  by_cases hnm : n = m
  · subst hnm
    have h0 : ((n : Int) != n) = false := by simp
    go_enter Try.func30, Try.ntmps30
    go_wp2
    go_loopw [5] (fun i wr => ∃ k q : Nat, k ≤ n ∧ i = .int .i64 k ∧ wr = w.drewN q ∧ Hid (xs.take k = ys.take k)) (fun i _ => n - (intOf i).toNat)
    case atStart => exact ⟨0, 0, Nat.zero_le _, rfl, rfl, rfl⟩
    case round =>
      obtain ⟨k, q, hk, rfl, rfl, hpre⟩ := hrel
      by_cases hlt : k < n
      · obtain ⟨p, x, rfl, hx, hcx⟩ := ha.byteAt hlt
        obtain ⟨p', y, rfl, hy, hcy⟩ := hb.byteAt hlt
        have HX := Lib.hid hx
        have HY := Lib.hid hy
        clear hx hy
        go_wp2
        go_quiet (fail)
        by_cases hxy : x = y
        · subst hxy
          have h2 : ((x.toNat : Int) != (x.toNat : Int)) = false := by simp
          go_wp2
          go_roundw
          case rel => exact ⟨k + 1, q + nq, by omega, by go_num, by simp, take_succ_eq hpre.out HX.out HY.out⟩
          case measure => simp [intOf]; omega
        · have h2 : ((x.toNat : Int) != (y.toNat : Int)) = true := by
            simp only [bne_iff_ne, ne_eq]
            intro h; exact hxy (UInt8.toNat_inj.1 (by omega))
          go_wp2
          go_ret
          refine ⟨ret_bool ?_, q + nq, by simp⟩
          symm; simp only [decide_eq_false_iff_not]
          rintro rfl
          have a := HX.out
          have b := HY.out
          rw [a] at b
          exact hxy (Option.some.inj b)
      · go_wp2
        go_ret
        refine ⟨ret_bool ?_, q, rfl⟩
        symm; simp only [decide_eq_true_eq]
        have h := hpre.out
        have a := Hx.out
        have b := Hy.out
        rwa [List.take_of_length_le (by omega), List.take_of_length_le (by omega)] at h
  · have h0 : ((n : Int) != m) = true := by simp only [bne_iff_ne, ne_eq]; omega
    go_enter Try.func30, Try.ntmps30
    go_wp2
    go_ret
    refine ⟨ret_bool ?_, 0, rfl⟩
    symm; simp only [decide_eq_false_iff_not]
    rintro rfl
    exact hnm (Hx.out.symm.trans Hy.out)

theorem u8_info : (Try.prog.info? 5).map (fun i => (i.zero, i.size, i.bytes)) = some (some (.int .u8 0), 1, 1) := by kernel_rfl

/-- A slice of bytes in memory from 'base' on: nil and empty, or a row's beginning. -/
def OwnB (w : World) (base : Nat) (v : Value) (l : List UInt8) : Prop := w.ownsRow base 5 1 v l.length (l.map vb)

theorem OwnB.of_push {w : World} {base : Nat} {v : Value} {l : List UInt8} {b : UInt8} (h : w.ownsRow base 5 1 v (l.length + 1) (l.map vb ++ [vb b])) : OwnB w base v (l ++ [b]) := by
  simpa [OwnB] using h
theorem OwnB.push_at {w : World} {base k : Nat} {v : Value} {l : List UInt8} {b : UInt8} (hk : l.length = k) (h : w.ownsRow base 5 1 v (k + 1) (l.map vb ++ [.int .u8 (b.toNat : Int)])) : OwnB w base v (l ++ [b]) := by
  subst hk; exact OwnB.of_push h
theorem OwnB.below {w w' : World} {base : Nat} {v : Value} {l : List UInt8} (h : OwnB w base v l) (hb : Below w.heap.size w w') : OwnB w' base v l :=
  h.kept (row := none) ⟨hb.os, hb.tape, hb.output, hb.size, fun k hk _ => hb.block k hk⟩ (by cases hv : v.ownBlock <;> simp)
theorem OwnB.more {w : World} {base base' : Nat} {v : Value} {l : List UInt8} (h : OwnB w base v l) (hb : base' ≤ base) : OwnB w base' v l := by
  refine ⟨h.1, ?_⟩
  rcases h.2 with hn | ⟨g, cap, cur, h1, h2, h3⟩
  · exact .inl hn
  · exact .inr ⟨g, cap, cur, h1, Nat.le_trans hb h2, h3⟩
theorem OwnB.shape {w : World} {base : Nat} {v : Value} {l : List UInt8} (h : OwnB w base v l) : ∃ A n c, v = .slice A n c ∧ Hid (n = l.length) ∧ Rd w 1 A n (l.map vb) := by
  rcases h.2 with ⟨rfl, hn⟩ | ⟨g, cap, cur, rfl, h2, h3⟩
  · have : l = [] := List.length_eq_zero_iff.1 hn
    subst this
    exact ⟨none, 0, 0, rfl, rfl, Rd.none_⟩
  · exact ⟨_, _, _, rfl, rfl, Rd.of_own h⟩
theorem OwnB.cellAt {w : World} {base g n c : Nat} {l : List UInt8} (h : OwnB w base (.slice (some ⟨g, 0, none⟩) n c) l) {k : Nat} (hk : k < l.length) :
    ∃ x, l[k]? = some x ∧ w.cell? ⟨g, k, none⟩ = some (.int .u8 (x.toNat : Int)) := by
  have hn : n = l.length := by
    rcases h.2 with ⟨h', _⟩ | ⟨g', cap', cur, h', _⟩
    · cases h'
    · injection h'
  subst hn
  have hc := World.ownsRow.cellAt h k (by omega)
  rw [List.getElem?_map, List.getElem?_eq_getElem hk] at hc
  exact ⟨l[k], List.getElem?_eq_getElem hk, hc⟩
theorem OwnB.frozenAt {w : World} {base g n c : Nat} {l : List UInt8} (h : OwnB w base (.slice (some ⟨g, 0, none⟩) n c) l) (k : Nat) : w.frozen? ⟨g, k, none⟩ = false := by
  have hn : n = l.length := by
    rcases h.2 with ⟨h', _⟩ | ⟨g', cap', cur, h', _⟩
    · cases h'
    · injection h'
  subst hn
  exact World.ownsRow.frozenAt h k
theorem OwnB.stored {w : World} {base g n c : Nat} {l : List UInt8} (h : OwnB w base (.slice (some ⟨g, 0, none⟩) n c) l) (k : Nat) (x : UInt8) :
    OwnB (w.setCell ⟨g, k, none⟩ (.int .u8 (x.toNat : Int))) base (.slice (some ⟨g, 0, none⟩) n c) (l.set k x) ∧ w.grownBy (w.setCell ⟨g, k, none⟩ (.int .u8 (x.toNat : Int))) (some g) := by
  have hn : n = l.length := by
    rcases h.2 with ⟨h', _⟩ | ⟨g', cap', cur, h', _⟩
    · cases h'
    · injection h'
  subst hn
  have hs := World.ownsRow.stored h k (vb x)
  exact ⟨by unfold OwnB; rw [List.length_set, List.map_set]; exact hs.1, hs.2⟩
theorem grownBy_trans {a b c : World} {row : Option Nat} (h : a.grownBy b row) (k : b.grownBy c row) : a.grownBy c row :=
  ⟨k.os.trans h.os, k.tape.trans h.tape, k.output.trans h.output, Nat.le_trans h.size k.size, fun i hi hn => (k.block i (Nat.lt_of_lt_of_le hi h.size) hn).trans (h.block i hi hn)⟩
theorem grownBy_drewN {a b : World} {row : Option Nat} (h : a.grownBy b row) (n : Nat) : a.grownBy (b.drewN n) row := ⟨h.os, h.tape, h.output, h.size, h.block⟩
theorem grownBy_drew {a b : World} {row : Option Nat} (h : a.grownBy b row) : a.grownBy b.drew row := ⟨h.os, h.tape, h.output, h.size, h.block⟩

theorem vb_one (l : List UInt8) : ∀ u ∈ l.map vb, u.oneCell' = true := by
  intro u hu
  obtain ⟨b, -, rfl⟩ := List.mem_map.1 hu
  rfl

set_option maxHeartbeats 400000 in
theorem copyBytes_any (A : Option Addr) (n c : Nat) (l : List UInt8) (w : World) (h : Rd w 1 A n (l.map vb)) (hn : n ≤ 140737488355328) :
    Calls Try.prog 49 #[.slice A n c] w fun e w' => ∃ v, e = .returned v ∧ OwnB w' w.heap.size v l ∧ Below w.heap.size w w' := by
  obtain ⟨i0, hi0, hz0, hz1, hz2⟩ := info_parts u8_info
  have hl : n = l.length := by simpa using h.1.symm
  subst hl
  go_enter Try.func49, Try.ntmps49
  go_wp2_with (at_builtin; refine wpList_append_any _ rfl (.tmp 4) (.tmp 5) _ rfl w.heap.size 5 i0 _ 1 1 Try.underlying25 hi0 hz0 hz1 hz2 rfl (by omega) (.slice none 0 0) 0 [] rfl ⟨by simp, .inl ⟨rfl, rfl⟩⟩ A l.length c (l.map vb) rfl h (vb_one l) (by simp only [maxLen]; omega) (by omega) (Nat.le_refl _) ?_; intro v1 w1 hown1 hg1 hat1; have hbw1 : Below w.heap.size w w1 := (Below.refl _ _).grown hg1 (Nat.le_refl _) (by simp [Value.ownBlock]))
  go_ret
  exact ⟨v1, rfl, by simpa [OwnB] using hown1, hbw1⟩

/-- The marks behind a lent list. -/
def markB (k i : Nat) : UInt8 := UInt8.ofNat (7 * k + i + 1)
def marksB (k s n : Nat) : List UInt8 := (List.range n).map fun i => markB k (s + i)
theorem markB_toNat (k i : Nat) : ((markB k i).toNat : Int) = (7 * (k : Int) + i + 1) % 256 := by
  unfold markB; rw [UInt8.toNat_ofNat']; omega
theorem marksB_succ (k s n : Nat) : marksB k s (n + 1) = marksB k s n ++ [markB k (s + n)] := by
  simp [marksB, List.range_succ]
theorem marksB_length (k s n : Nat) : (marksB k s n).length = n := by simp [marksB]

set_option maxHeartbeats 400000 in
theorem markB_any (k i : Nat) (w : World) (h1 : k ≤ 100000) (h3 : i ≤ 1000000000000000000) :
    Calls Try.prog 56 #[.int .i64 (k : Int), .int .i64 (i : Int)] w fun e w' => e = .returned (vb (markB k i)) ∧ w = w' := by
  have hm := markB_toNat k i
  unfold vb
  have HM := Lib.hid hm
  clear hm
  go_enter Try.func56, Try.ntmps56
  go_wp2
  go_ret
  exact ⟨by rw [HM.out]; rfl, rfl⟩

theorem markB_at {a b : Int} (k i : Nat) (ha : a = (k : Int)) (hb : b = (i : Int)) (w : World) (h1 : k ≤ 100000) (h3 : i ≤ 1000000000000000000) :
    Calls Try.prog 56 #[.int .i64 a, .int .i64 b] w fun e w' => e = .returned (vb (markB k i)) ∧ w = w' := by
  subst ha; subst hb; exact markB_any k i w h1 h3

set_option maxRecDepth 100000 in
set_option maxHeartbeats 400000 in
theorem lentBytes_any (A : Option Addr) (n c : Nat) (l : List UInt8) (w : World) (h : Rd w 1 A n (l.map vb)) (hn : n ≤ 140737488355320) :
    Calls Try.prog 20 #[.slice A n c] w fun e w' => ∃ v, e = .returned v ∧ OwnB w' w.heap.size v (l ++ marksB 7 0 6) ∧ Below w.heap.size w w' := by
  obtain ⟨i0, hi0, hz0, hz1, hz2⟩ := info_parts u8_info
  have hl : l.length = n := by simpa using h.1
  have HL := Lib.hid hl
  clear hl
  go_enter Try.func20, Try.ntmps20
  go_wp2_with (go_at_call 49; refine (copyBytes_any A n c l _ h (by omega)).mono ?_; rintro e w1 ⟨v1, rfl, ho1, hb1⟩)
  go_loopw [3, 4] (fun v i wr => ∃ k : Nat, k ≤ 6 ∧ i = .int .i64 k ∧ OwnB wr w.heap.size v (l ++ marksB 7 0 k) ∧ Below w.heap.size w wr) (fun _ i _ => 6 - (intOf i).toNat)
  case atStart => exact ⟨0, Nat.zero_le _, rfl, by simpa [marksB] using ho1, hb1⟩
  case round =>
    obtain ⟨k, hk, rfl, ho, hb⟩ := hrel
    by_cases hlt : k < 6
    · have hz : w.heap.size ≤ wr.heap.size := hb.size
      have hm : (l ++ marksB 7 0 k).length ≤ n + 6 := by have := HL.out; simp [marksB_length]; omega
      go_wp2_with (first | (go_at_call 56; refine (markB_any 7 k _ (by omega) (by omega)).mono ?_; rintro e w2 ⟨rfl, rfl⟩) | (at_builtin; refine wpList_append_own _ rfl (.tmp 11) (.tmp 14) 25 rfl w.heap.size 5 i0 (.int .u8 0) 1 1 Try.underlying25 hi0 hz0 hz1 hz2 rfl (by decide) _ _ _ rfl (ho.alloc _) ⟨wr.heap.size, 0, none⟩ 1 1 [vb (markB 7 k)] rfl rfl (cell_one_new _ _ _) (by simp [Value.oneCell']) (by simp only [maxLen]; omega) (by omega) (by simp; omega) ?_; intro v2 w2 ho2 hg2 hnil))
      have hb2 : Below w.heap.size w w2 := (hb.alloc hz _).grown hg2 (by simp; omega) (fun g hg => (ho.lt g hg).1)
      go_roundw
      case rel => exact ⟨k + 1, by omega, by go_num, by rw [marksB_succ, ← List.append_assoc]; simpa using OwnB.of_push ho2, hb2⟩
      case measure => simp [intOf]; omega
    · have hk6 : k = 6 := by omega
      subst hk6
      go_wp2
      go_ret
      exact ⟨_, rfl, ho, hb⟩

set_option maxHeartbeats 400000 in
theorem keptBytes_any (A B : Option Addr) (n m c d : Nat) (xs ys : List UInt8) (w : World) (ha : Rd w 1 A n (xs.map vb)) (hb : Rd w 1 B m (ys.map vb)) (hn : n ≤ 9223372036854775807) (hm : m ≤ 140737488355320) :
    Calls Try.prog 26 #[.slice A n c, .slice B m d] w fun e w' => e = .returned (.bool (decide (xs = ys ++ marksB 7 0 6))) ∧ Below w.heap.size w w' := by
  have hly : ys.length = m := by simpa using hb.1
  have HY := Lib.hid hly
  clear hly
  go_enter Try.func26, Try.ntmps26
  go_wp2_with fail
  refine (lentBytes_any B m d ys _ hb hm).mono ?_
  rintro e w1 ⟨v1, rfl, ho1, hb1⟩
  obtain ⟨A1, n1, c1, rfl, hn1, hr1⟩ := ho1.shape
  have hlen : n1 ≤ 9223372036854775807 := by rw [hn1.out, List.length_append, HY.out, marksB_length]; omega
  go_wp2_with fail
  refine (sameBytes_any A A1 n _ c c1 xs _ w1 (ha.below hb1) hr1 hn hlen).mono ?_
  rintro e w2 ⟨rfl, q, rfl⟩
  go_wp2
  go_ret
  exact ⟨rfl, bdrewN hb1 q⟩

theorem sameBytes_yes (A B : Option Addr) (n m c d : Nat) (xs ys : List UInt8) (w : World) (ha : Rd w 1 A n (xs.map vb)) (hb : Rd w 1 B m (ys.map vb)) (hn : n ≤ 9223372036854775807) (hm : m ≤ 9223372036854775807) (h : xs = ys) :
    Calls Try.prog 30 #[.slice A n c, .slice B m d] w fun e w' => e = .returned (.bool true) ∧ Below w.heap.size w w' :=
  (sameBytes_any A B n m c d xs ys w ha hb hn hm).mono fun _ _ h' => ⟨by rw [h'.1, decide_eq_true h], by obtain ⟨k, rfl⟩ := h'.2; exact bdrewN (Below.refl _ _) k⟩
theorem sameBytes_quiet (A B : Option Addr) (n m c d : Nat) (xs ys : List UInt8) (w : World) (ha : Rd w 1 A n (xs.map vb)) (hb : Rd w 1 B m (ys.map vb)) (hn : n ≤ 9223372036854775807) (hm : m ≤ 9223372036854775807) (h : xs = ys) :
    Calls Try.prog 30 #[.slice A n c, .slice B m d] w fun e w' => e = .returned (.bool true) ∧ ∃ k, w' = w.drewN k :=
  (sameBytes_any A B n m c d xs ys w ha hb hn hm).mono fun _ _ h' => ⟨by rw [h'.1, decide_eq_true h], h'.2⟩
theorem keptBytes_yes (A B : Option Addr) (n m c d : Nat) (xs ys : List UInt8) (w : World) (ha : Rd w 1 A n (xs.map vb)) (hb : Rd w 1 B m (ys.map vb)) (hn : n ≤ 9223372036854775807) (hm : m ≤ 140737488355320) (h : xs = ys ++ marksB 7 0 6) :
    Calls Try.prog 26 #[.slice A n c, .slice B m d] w fun e w' => e = .returned (.bool true) ∧ Below w.heap.size w w' :=
  (keptBytes_any A B n m c d xs ys w ha hb hn hm).mono fun _ _ h' => ⟨by rw [h'.1, decide_eq_true h], h'.2⟩

theorem over_step {l : List UInt8} {k m : Nat} (hk : k < l.length) : (marksB m 0 k ++ l.drop k).set k (markB m (0 + k)) = marksB m 0 (k + 1) ++ l.drop (k + 1) := by
  rw [marksB_succ, List.set_append_right _ _ (by simp [marksB_length]), marksB_length, Nat.sub_self, List.drop_eq_getElem_cons hk, List.set_cons_zero, List.append_assoc, List.singleton_append]

set_option maxHeartbeats 400000 in
theorem overBytes_any (base g c n : Nat) (l : List UInt8) (w : World) (h : OwnB w base (.slice (some ⟨g, 0, none⟩) n c) l) (HL : Hid (n = l.length)) (hn : n ≤ 140737488355328) :
    Calls Try.prog 27 #[.slice (some ⟨g, 0, none⟩) n c] w fun e w' => e = .returned (.tuple #[]) ∧ OwnB w' base (.slice (some ⟨g, 0, none⟩) n c) (marksB 9 0 n) ∧ w.grownBy w' (some g) := by
  go_enter Try.func27, Try.ntmps27
  go_wp2
  go_loopw [2] (fun i wr => ∃ k : Nat, k ≤ n ∧ i = .int .i64 k ∧ OwnB wr base (.slice (some ⟨g, 0, none⟩) n c) (marksB 9 0 k ++ l.drop k) ∧ w.grownBy wr (some g)) (fun i _ => n - (intOf i).toNat)
  case atStart => exact ⟨0, Nat.zero_le _, rfl, by simpa [marksB] using h, World.grownBy.refl _ _⟩
  case round =>
    obtain ⟨k, hk, rfl, ho, hg⟩ := hrel
    by_cases hlt : k < n
    · have hlk : k < (marksB 9 0 k ++ l.drop k).length := by have := HL.out; simp [marksB_length]; omega
      obtain ⟨x, -, hcell⟩ := ho.cellAt hlk
      have hfr := ho.frozenAt k
      obtain ⟨h1, h2⟩ := ho.stored k (markB 9 (0 + k))
      rw [over_step (by have := HL.out; omega), Nat.zero_add] at h1
      rw [Nat.zero_add] at h2
      go_wp2_with (go_at_call 56; refine (markB_any 9 k _ (by omega) (by omega)).mono ?_; rintro e w2 ⟨rfl, rfl⟩)
      go_roundw
      case rel => exact ⟨k + 1, by omega, by go_num, h1, grownBy_trans hg h2⟩
      case measure => simp [intOf]; omega
    · have hkn : k = n := by omega
      go_wp2
      go_end0
      refine ⟨rfl, ?_, hg⟩
      subst hkn
      rwa [List.drop_of_length_le (by have := HL.out; omega), List.append_nil] at ho
end Go.Proofs.Ytgfhnbjpdhdhgaa

/- Turning words, in plain numbers. -/
namespace Go.Proofs.Ytgfhnbjpdhdhgaa
/-- x turned left by n in a word of W bits. -/
def rotN (W x n : Nat) : Nat := x * 2 ^ n % 2 ^ W + x / 2 ^ (W - n)
/-- what the reference has gathered after i bits -/
def rotTo (W x n i : Nat) : Nat := if i ≤ W - n then (x % 2 ^ i) * 2 ^ n else (x % 2 ^ (W - n)) * 2 ^ n + (x / 2 ^ (W - n)) % 2 ^ (i - (W - n))

theorem mod_succ_bit (x i : Nat) : x % 2 ^ (i + 1) = x % 2 ^ i + x / 2 ^ i % 2 * 2 ^ i := by
  rw [Nat.pow_succ, Nat.mod_mul, Nat.mul_comm (2 ^ i)]

theorem rotTo_zero (W x n : Nat) : rotTo W x n 0 = 0 := by simp [rotTo, Nat.mod_one]

theorem rotTo_succ (W x n i : Nat) (hn : n < W) (hi : i < W) : rotTo W x n (i + 1) = rotTo W x n i + x / 2 ^ i % 2 * 2 ^ ((i + n) % W) := by
  unfold rotTo
  rcases Nat.lt_trichotomy i (W - n) with h | h | h
  · rw [if_pos (by omega), if_pos (by omega), mod_succ_bit, Nat.add_mul, Nat.mod_eq_of_lt (a := i + n) (by omega), Nat.pow_add, Nat.mul_assoc]
  · have e : (i + n) % W = 0 := by
      have : i + n = W := by omega
      rw [this, Nat.mod_self]
    have e1 : i + 1 - (W - n) = 1 := by omega
    rw [if_neg (by omega), if_pos (by omega), e, e1]
    subst h
    simp
  · have e : (i + n) % W = i - (W - n) := by
      rw [Nat.mod_eq_sub_mod (by omega), Nat.mod_eq_of_lt (by omega)]; omega
    have e1 : i + 1 - (W - n) = (i - (W - n)) + 1 := by omega
    rw [if_neg (by omega), if_neg (by omega), e, e1, mod_succ_bit, Nat.div_div_eq_div_mul, ← Nat.pow_add, Nat.add_assoc]
    have e2 : W - n + (i - (W - n)) = i := by omega
    rw [e2]

theorem rotTo_end (W x n : Nat) (hn : n < W) (hx : x < 2 ^ W) : rotTo W x n W = rotN W x n := by
  have h1 : x * 2 ^ n % 2 ^ W = (x % 2 ^ (W - n)) * 2 ^ n := by
    have e : 2 ^ W = 2 ^ (W - n) * 2 ^ n := by rw [← Nat.pow_add]; congr 1; omega
    rw [e, Nat.mul_mod_mul_right]
  unfold rotTo rotN
  by_cases h0 : n = 0
  · subst h0
    rw [if_pos (by omega)]
    simp [Nat.mod_eq_of_lt hx, Nat.div_eq_of_lt hx]
  · rw [if_neg (by omega), h1]
    congr 1
    have e : W - (W - n) = n := by omega
    rw [e, Nat.mod_eq_of_lt]
    have e2 : 2 ^ W = 2 ^ (W - n) * 2 ^ n := by rw [← Nat.pow_add]; congr 1; omega
    rw [Nat.div_lt_iff_lt_mul (Nat.two_pow_pos _), Nat.mul_comm, ← e2]
    exact hx

theorem rotTo_lt (W x n i : Nat) (hn : n < W) (hi : i ≤ W) : rotTo W x n i < 2 ^ W := by
  have e : 2 ^ W = 2 ^ (W - n) * 2 ^ n := by rw [← Nat.pow_add]; congr 1; omega
  unfold rotTo
  by_cases h : i ≤ W - n
  · rw [if_pos h, e]
    have h1 : x % 2 ^ i < 2 ^ i := Nat.mod_lt _ (Nat.two_pow_pos _)
    have h2 : 2 ^ i ≤ 2 ^ (W - n) := Nat.pow_le_pow_right (by omega) h
    exact Nat.mul_lt_mul_of_pos_right (by omega) (Nat.two_pow_pos _)
  · rw [if_neg h, e]
    have h1 : x % 2 ^ (W - n) < 2 ^ (W - n) := Nat.mod_lt _ (Nat.two_pow_pos _)
    have h2 : x / 2 ^ (W - n) % 2 ^ (i - (W - n)) < 2 ^ n := Nat.lt_of_lt_of_le (Nat.mod_lt _ (Nat.two_pow_pos _)) (Nat.pow_le_pow_right (by omega) (by omega))
    have h3 : (x % 2 ^ (W - n) + 1) * 2 ^ n ≤ 2 ^ (W - n) * 2 ^ n := Nat.mul_le_mul_right _ h1
    rw [Nat.add_mul, Nat.one_mul] at h3
    omega

/-- the two parts lie apart -/
theorem rotN_or (W x n : Nat) (hn : n < W) (hx : x < 2 ^ W) : (x * 2 ^ n % 2 ^ W) ||| (x / 2 ^ (W - n)) = rotN W x n := by
  have e2 : 2 ^ W = 2 ^ (W - n) * 2 ^ n := by rw [← Nat.pow_add]; congr 1; omega
  have h1 : x * 2 ^ n % 2 ^ W = 2 ^ n * (x % 2 ^ (W - n)) := by
    rw [e2, Nat.mul_mod_mul_right, Nat.mul_comm]
  have h2 : x / 2 ^ (W - n) < 2 ^ n := by
    rw [Nat.div_lt_iff_lt_mul (Nat.two_pow_pos _), Nat.mul_comm, ← e2]
    exact hx
  unfold rotN
  rw [h1, Nat.two_pow_add_eq_or_of_lt h2]
theorem rotN_lt (W x n : Nat) (hn : n < W) (hx : x < 2 ^ W) : rotN W x n < 2 ^ W := by
  rw [← rotTo_end W x n hn hx]; exact rotTo_lt W x n W hn (Nat.le_refl _)
end Go.Proofs.Ytgfhnbjpdhdhgaa

namespace Go.Proofs.Ytgfhnbjpdhdhgaa
open Go.RowKit
set_option linter.unusedVariables false

theorem ret_int {k : IntKind} {a b : Int} (h : a = b) : Ending.returned (.int k a) = .returned (.int k b) := by rw [h]
theorem rot_bits_32 (x m : Nat) (hm : m < 32) (hx : x < 2 ^ 32) : bits .or .u32 ((x : Int) * 2 ^ m % 4294967296) ((x : Int) / 2 ^ (32 - m)) = ((rotN 32 x m : Nat) : Int) := by
  have e1 : (x : Int) * 2 ^ m % 4294967296 = ((x * 2 ^ m % 2 ^ 32 : Nat) : Int) := by
    rw [Int.natCast_emod, Int.natCast_mul, Int.natCast_pow, show ((2 ^ 32 : Nat) : Int) = 4294967296 from rfl]; rfl
  have e2 : (x : Int) / 2 ^ (32 - m) = ((x / 2 ^ (32 - m) : Nat) : Int) := by
    rw [Int.natCast_ediv, Int.natCast_pow]; rfl
  rw [e1, e2, u32_or_nat _ _ (Nat.mod_lt _ (by decide)) (Nat.lt_of_le_of_lt (Nat.div_le_self _ _) (by omega)), rotN_or 32 x m hm hx]
theorem rot_bits_64 (x m : Nat) (hm : m < 64) (hx : x < 2 ^ 64) : bits .or .u64 ((x : Int) * 2 ^ m % 18446744073709551616) ((x : Int) / 2 ^ (64 - m)) = ((rotN 64 x m : Nat) : Int) := by
  have e1 : (x : Int) * 2 ^ m % 18446744073709551616 = ((x * 2 ^ m % 2 ^ 64 : Nat) : Int) := by
    rw [Int.natCast_emod, Int.natCast_mul, Int.natCast_pow, show ((2 ^ 64 : Nat) : Int) = 18446744073709551616 from rfl]; rfl
  have e2 : (x : Int) / 2 ^ (64 - m) = ((x / 2 ^ (64 - m) : Nat) : Int) := by
    rw [Int.natCast_ediv, Int.natCast_pow]; rfl
  rw [e1, e2, u64_or_nat _ _ (Nat.mod_lt _ (by decide)) (Nat.lt_of_le_of_lt (Nat.div_le_self _ _) (by omega)), rotN_or 64 x m hm hx]
theorem tmod_lo (W : Int) (hW : W = 32 ∨ W = 64) (n : Int) (h : n.tmod W < 0) : wrap64 (n.tmod W + W) = ((n % W).toNat : Int) := by
  have e := Int.tmod_eq_emod (a := n) (b := W)
  unfold wrap64
  rcases hW with rfl | rfl
  · rw [show Int.natAbs 32 = 32 from rfl] at e; split at e <;> omega
  · rw [show Int.natAbs 64 = 64 from rfl] at e; split at e <;> omega
theorem tmod_hi (W : Int) (hW : W = 32 ∨ W = 64) (n : Int) (h : ¬ n.tmod W < 0) : n.tmod W = ((n % W).toNat : Int) := by
  have e := Int.tmod_eq_emod (a := n) (b := W)
  rcases hW with rfl | rfl
  · rw [show Int.natAbs 32 = 32 from rfl] at e; split at e <;> omega
  · rw [show Int.natAbs 64 = 64 from rfl] at e; split at e <;> omega

end Go.Proofs.Ytgfhnbjpdhdhgaa

/- Words laid into bytes and taken out of them, in plain numbers. -/
namespace Go.Proofs.Ytgfhnbjpdhdhgaa
/-- a word's n bytes, the lowest first -/
def leL (n x : Nat) : List UInt8 := (List.range n).map fun i => UInt8.ofNat (x / 256 ^ i)
def beL (n x : Nat) : List UInt8 := (leL n x).reverse
theorem leL_length (n x : Nat) : (leL n x).length = n := by simp [leL]
theorem beL_length (n x : Nat) : (beL n x).length = n := by simp [beL, leL]
theorem leL_succ (n x : Nat) : leL (n + 1) x = leL n x ++ [UInt8.ofNat (x / 256 ^ n)] := by simp [leL, List.range_succ]
theorem leL_get {n x i : Nat} (h : i < n) : (leL n x)[i]? = some (UInt8.ofNat (x / 256 ^ i)) := by simp [leL, h]
theorem beL_get {n x i : Nat} (h : i < n) : (beL n x)[i]? = some (UInt8.ofNat (x / 256 ^ (n - 1 - i))) := by
  unfold beL
  rw [List.getElem?_reverse (by rw [leL_length]; exact h), leL_length, leL_get (by omega)]
/-- the byte at a place, 0 where there is none -/
def byteAt (l : List UInt8) (at' : Int) : Nat := if 0 ≤ at' ∧ at' < l.length then (l.getD at'.toNat 0).toNat else 0
theorem byteAt_lt (l : List UInt8) (a : Int) : byteAt l a < 256 := by
  unfold byteAt; split
  · exact UInt8.toNat_lt _
  · omega
/-- the first n bytes from a place on, the highest first -/
def beTo (l : List UInt8) (a : Int) : Nat → Nat
  | 0 => 0
  | k + 1 => 256 * beTo l a k + byteAt l (a + k)
/-- the lowest first -/
def leTo (l : List UInt8) (a : Int) : Nat → Nat
  | 0 => 0
  | k + 1 => leTo l a k + byteAt l (a + k) * 256 ^ k
theorem beTo_lt (l : List UInt8) (a : Int) (k : Nat) : beTo l a k < 256 ^ k := by
  induction k with
  | zero => simp [beTo]
  | succ k ih => have := byteAt_lt l (a + k); rw [Nat.pow_succ]; unfold beTo; omega
theorem leTo_lt (l : List UInt8) (a : Int) (k : Nat) : leTo l a k < 256 ^ k := by
  induction k with
  | zero => simp [leTo]
  | succ k ih =>
    have := byteAt_lt l (a + k)
    unfold leTo
    rw [Nat.pow_succ]
    have h : (byteAt l (a + k) + 1) * 256 ^ k ≤ 256 * 256 ^ k := Nat.mul_le_mul_right _ this
    rw [Nat.add_mul, Nat.one_mul] at h
    omega
theorem byteAt_out (l : List UInt8) (a : Int) (h : a < 0 ∨ (l.length : Int) ≤ a) : byteAt l a = 0 := by
  unfold byteAt; rw [if_neg]; omega
theorem beTo_out (l : List UInt8) (a : Int) (n : Nat) (h : a + n ≤ 0 ∨ (l.length : Int) ≤ a) (k : Nat) (hk : k ≤ n) : beTo l a k = 0 := by
  induction k with
  | zero => rfl
  | succ k ih => unfold beTo; rw [ih (by omega), byteAt_out l _ (by omega)]
theorem leTo_out (l : List UInt8) (a : Int) (n : Nat) (h : a + n ≤ 0 ∨ (l.length : Int) ≤ a) (k : Nat) (hk : k ≤ n) : leTo l a k = 0 := by
  induction k with
  | zero => rfl
  | succ k ih => unfold leTo; rw [ih (by omega), byteAt_out l _ (by omega)]; omega
/-- the reference's way from the highest of n down: what it has gathered when i is still to come -/
def leDown (l : List UInt8) (a : Int) : Nat → Nat → Nat
  | _, 0 => 0
  | n, d + 1 => 256 * leDown l a n d + byteAt l (a + (n - 1 - d : Nat))
theorem leDown_eq (l : List UInt8) (a : Int) (n d : Nat) (h : d ≤ n) : leTo l a n = leTo l a (n - d) + leDown l a n d * 256 ^ (n - d) := by
  induction d with
  | zero => simp [leDown]
  | succ d ih =>
    rw [ih (by omega)]
    have e : n - d = (n - (d + 1)) + 1 := by omega
    rw [e]
    have e2 : n - 1 - d = n - (d + 1) := by omega
    rw [leDown, leTo, e2, Nat.add_mul, Nat.pow_succ, Nat.mul_comm (256 ^ (n - (d + 1))) 256, ← Nat.mul_assoc, Nat.mul_comm (leDown l a n d) 256]
    omega
theorem leDown_all (l : List UInt8) (a : Int) (n : Nat) : leDown l a n n = leTo l a n := by
  have := leDown_eq l a n n (Nat.le_refl _)
  rw [Nat.sub_self] at this
  simp [leTo] at this
  omega
theorem leDown_lt (l : List UInt8) (a : Int) (n d : Nat) : leDown l a n d < 256 ^ d := by
  induction d with
  | zero => simp [leDown]
  | succ d ih => have := byteAt_lt l (a + (n - 1 - d : Nat)); rw [Nat.pow_succ]; unfold leDown; omega
end Go.Proofs.Ytgfhnbjpdhdhgaa

namespace Go.Proofs.Ytgfhnbjpdhdhgaa
theorem zeros_step {l : List UInt8} {k n : Nat} {b : UInt8} (hk : k < n) (hb : l[k]? = some b) : (l.take k ++ List.replicate (n - k) 0).set k b = l.take (k + 1) ++ List.replicate (n - (k + 1)) 0 := by
  have hl : k < l.length := (List.getElem?_eq_some_iff.1 hb).1
  have e : n - k = (n - (k + 1)) + 1 := by omega
  have hm : min k l.length = k := by omega
  rw [List.set_append_right _ _ (by simp; omega), List.length_take, hm, Nat.sub_self, e, List.replicate_succ, List.set_cons_zero, List.take_add_one, hb]
  simp
end Go.Proofs.Ytgfhnbjpdhdhgaa

namespace Go.Proofs.Ytgfhnbjpdhdhgaa
open Go.RowKit
set_option linter.unusedVariables false

/-- the number that bytes are -/
def tk (l : List UInt8) : Nat := l.foldl (fun n b => 256 * n + b.toNat) 0
theorem tk_zero : tk [] = 0 := rfl
theorem tk_snoc (l : List UInt8) (b : UInt8) : tk (l ++ [b]) = 256 * tk l + b.toNat := by simp [tk]
theorem tk_from (l : List UInt8) : ∀ a, l.foldl (fun n b => 256 * n + b.toNat) a + 1 ≤ (a + 1) * 256 ^ l.length := by
  induction l with
  | nil => intro a; simp
  | cons b l ih =>
    intro a
    have h := ih (256 * a + b.toNat)
    have hb := b.toNat_lt
    rw [List.foldl_cons, List.length_cons, Nat.pow_succ]
    refine Nat.le_trans h ?_
    rw [Nat.mul_comm (256 ^ l.length), ← Nat.mul_assoc]
    exact Nat.mul_le_mul_right _ (by omega)
theorem tk_lt (l : List UInt8) : tk l < 256 ^ l.length := by
  have h := tk_from l 0
  unfold tk
  omega
theorem byte_eq (x d : Nat) : (x : Int) / 2 ^ (8 * d) % 256 = ((UInt8.ofNat (x / 256 ^ d)).toNat : Int) := by
  have e : (x : Int) / 2 ^ (8 * d) = ((x / 256 ^ d : Nat) : Int) := by
    rw [show (256 : Nat) ^ d = 2 ^ (8 * d) by rw [Nat.pow_mul], Int.natCast_ediv, Int.natCast_pow]; rfl
  rw [e, UInt8.toNat_ofNat']
  rfl
theorem or_byte_64 {b x : Nat} (hb : b ≤ 72057594037927935) (hx : x ≤ 255) : bits .or .u64 ((b : Int) * 256) (x : Int) = ((256 * b + x : Nat) : Int) := by
  have e : (b : Int) * 256 = ((256 * b : Nat) : Int) := by omega
  rw [e, u64_or_nat _ _ (by omega) (by omega), Nat.two_pow_add_eq_or_of_lt (i := 8) (by omega)]

set_option maxHeartbeats 1000000 in
theorem number_s {w0 w : World} {F0 : List Nat} {E : Env} (i m N x : Nat) (v : Value) (pre : List UInt8) (H : St w0 F0 w E) (hi : E i = some (.row 5 1 v m (pre.map vb))) {a b : Int} (ha : a = (x : Int)) (hb : b = (N : Int)) (hx : x ≤ 18446744073709551615) (hN : N ≤ 8) (hm : m ≤ 140737488355000) :
    Calls Try.prog 60 #[v, .int .u64 a, .int .i64 b] w fun e w' => ∃ v', e = .returned v' ∧ St w0 F0 w' (upd E i (.row 5 1 v' (m + N) ((pre ++ beL N x).map vb))) := by
  obtain ⟨i0, hi0, hz0, hz1, hz2⟩ := info_parts u8_info
  obtain ⟨F, HF, -, -, hback⟩ := H.frame1 i hi
  have HB := Lib.hid hback
  clear hback H
  subst ha hb
  have H1 := HF.as1
  clear HF
  go_enter Try.func60, Try.ntmps60
  go_wp2
  go_loopw [0, 7] (fun v i wr => ∃ (k : Nat) (j : Int), k ≤ N ∧ j ≤ (N : Int) - 1 - k ∧ (N : Int) - 1 - k ≤ j ∧ i = .int .i64 j ∧ St w F wr (lay [.row 5 1 v (m + k) ((pre ++ (beL N x).take k).map vb)])) (fun _ i _ => (intOf i + 1).toNat)
  case atStart => exact ⟨0, (N : Int) - 1, Nat.zero_le _, by omega, by omega, rfl, by simpa using H1⟩
  case round =>
    clear H1
    obtain ⟨k, j, hk, hj1, hj2, rfl, Hk⟩ := hrel
    by_cases hlt : k < N
    · obtain ⟨d, rfl⟩ := Int.eq_ofNat_of_zero_le (by omega : 0 ≤ j)
      have hd : N - 1 - k = d := by omega
      have hg := beL_get (x := x) hlt
      rw [hd] at hg
      have HT : Hid ((beL N x).take (k + 1) = (beL N x).take k ++ [UInt8.ofNat (x / 256 ^ d)]) := by unfold Hid; rw [List.take_add_one, hg]; rfl
      have hbe := byte_eq x d
      have hr := Hk.row 0 rfl
      clear hg hd
      generalize UInt8.ofNat (x / 256 ^ d) = y at HT hbe
      go_wp2_with (at_builtin; rw [hbe]; refine wpList_append_any _ rfl (.tmp 14) (.tmp 20) _ rfl 0 5 i0 _ 1 1 Try.underlying25 hi0 hz0 hz1 hz2 rfl (by omega) u0 (m + k) _ rfl (hr.alloc _) (some ⟨wr.heap.size, 0, none⟩) 1 1 [vb y] rfl (rd_new0 wr [vb y] _ 1 rfl) (by simp [Value.oneCell']) (by simp only [maxLen]; omega) (by omega) (by omega) ?_; intro v3 w3 hown3 hg3 hat3)
      have H3 := ((Hk.alloc 1 rfl #[vb y] 5).grow 0 rfl hown3 hg3 hat3).sub (E' := lay [.row 5 1 v3 (m + k + 1) ((pre ++ (beL N x).take k).map vb ++ [vb y])]) (fun i A hA => by cases i with | zero => exact hA | succ i => simp [lay] at hA)
      go_roundw
      case rel => exact ⟨k + 1, (d : Int) - 1, by omega, by omega, by omega, by go_num, by rw [HT.out, ← Nat.add_assoc]; simpa using H3⟩
      case measure => first | (simp [intOf]; omega) | simp [intOf]
    · have hkN : k = N := by omega
      go_wp2
      go_ret
      refine ⟨_, rfl, ?_⟩
      subst hkN
      rw [List.take_of_length_le (by rw [beL_length]; omega)] at Hk
      exact HB.out _ _ (Hk.to1 rfl)

set_option maxHeartbeats 1000000 in
theorem taken_s (A : Option Addr) (n c : Nat) (l : List UInt8) (w : World) (h : Rd w 1 A n (l.map vb)) (hn : n ≤ 8) :
    Calls Try.prog 57 #[.slice A n c] w fun e w' => e = .returned (.int .u64 (tk l : Nat)) ∧ w = w' := by
  have hl : l.length = n := by simpa using h.1
  have HL := Lib.hid hl
  clear hl
  go_enter Try.func57, Try.ntmps57
  go_wp2
  go_loop [2, 4, 7] (fun y u i => ∃ k : Nat, k ≤ n ∧ i = .int .i64 k ∧ y = .int .u64 (tk (l.take k) : Nat)) (fun _ _ i => n - (intOf i).toNat)
  case atStart => exact ⟨0, Nat.zero_le _, rfl, rfl⟩
  case round =>
    obtain ⟨k, hk, rfl, rfl⟩ := hrel
    by_cases hlt : k < n
    · obtain ⟨p, x, rfl, hx, hc⟩ := h.byteAt hlt
      have hb := tk_lt (l.take k)
      have hp : 256 ^ (l.take k).length ≤ 72057594037927936 := Nat.le_trans (Nat.pow_le_pow_right (by omega) (show (l.take k).length ≤ 7 by simp; omega)) (by decide)
      have hs : tk (l.take (k + 1)) = 256 * tk (l.take k) + x.toNat := by rw [List.take_add_one, hx]; exact tk_snoc _ _
      have HS := Lib.hid hs
      have hb' : ((tk (l.take k) : Nat) : Int) ≤ 72057594037927935 := by omega
      have hxb : (x.toNat : Int) ≤ 255 := by have := x.toNat_lt; omega
      have hk3 : (k : Int) < n := by omega
      clear hs hp hb hx
      generalize tk (l.take k) = t at hb' HS ⊢
      go_wp2
      go_round
      case rel => exact ⟨k + 1, by omega, by go_num, by rw [HS.out, or_byte_64 (by omega) (by omega)]⟩
      case measure => first | (simp [intOf]; omega) | simp [intOf]
    · have hkN : k = n := by omega
      go_wp2
      go_ret
      exact ⟨ret_int (by rw [List.take_of_length_le (by rw [HL.out]; omega)]), rfl⟩

set_option maxHeartbeats 1000000 in
theorem refTaken_s (A : Option Addr) (n c : Nat) (l : List UInt8) (w : World) (h : Rd w 1 A n (l.map vb)) (hn : n ≤ 8) :
    Calls Try.prog 58 #[.slice A n c] w fun e w' => e = .returned (.int .u64 (tk l : Nat)) ∧ w = w' := by
  have hl : l.length = n := by simpa using h.1
  have HL := Lib.hid hl
  clear hl
  go_enter Try.func58, Try.ntmps58
  go_wp2
  go_loop [3, 4] (fun y i => ∃ k : Nat, k ≤ n ∧ i = .int .i64 k ∧ y = .int .u64 (tk (l.take k) : Nat)) (fun _ i => n - (intOf i).toNat)
  case atStart => exact ⟨0, Nat.zero_le _, rfl, rfl⟩
  case round =>
    obtain ⟨k, hk, rfl, rfl⟩ := hrel
    by_cases hlt : k < n
    · obtain ⟨p, x, rfl, hx, hc⟩ := h.byteAt hlt
      have hb := tk_lt (l.take k)
      have hp : 256 ^ (l.take k).length ≤ 72057594037927936 := Nat.le_trans (Nat.pow_le_pow_right (by omega) (show (l.take k).length ≤ 7 by simp; omega)) (by decide)
      have hs : tk (l.take (k + 1)) = 256 * tk (l.take k) + x.toNat := by rw [List.take_add_one, hx]; exact tk_snoc _ _
      have HS := Lib.hid hs
      have hb' : ((tk (l.take k) : Nat) : Int) ≤ 72057594037927935 := by omega
      have hxb : (x.toNat : Int) ≤ 255 := by have := x.toNat_lt; omega
      have hk3 : (k : Int) < n := by omega
      clear hs hp hb hx
      generalize tk (l.take k) = t at hb' HS ⊢
      go_wp2
      go_round
      case rel => exact ⟨k + 1, by omega, by go_num, by rw [HS.out]; go_num⟩
      case measure => first | (simp [intOf]; omega) | simp [intOf]
    · have hkN : k = n := by omega
      go_wp2
      go_ret
      exact ⟨ret_int (by rw [List.take_of_length_le (by rw [HL.out]; omega)]), rfl⟩

set_option maxHeartbeats 1000000 in
theorem refNumber_s (N x : Nat) (w : World) {a b : Int} (ha : a = (x : Int)) (hb : b = (N : Int)) (hx : x ≤ 18446744073709551615) (hN : N ≤ 8) :
    Calls Try.prog 68 #[.int .u64 a, .int .i64 b] w fun e w' => ∃ v, e = .returned v ∧ OwnB w' w.heap.size v (beL N x) ∧ Below w.heap.size w w' := by
  obtain ⟨i0, hi0, hz0, hz1, hz2⟩ := info_parts u8_info
  have H0 := (St.start_lay w []).nilRow 0 rfl 5 1 |>.push_mk rfl
  subst ha hb
  go_enter Try.func68, Try.ntmps68
  go_wp2
  go_loopw [5, 6] (fun v i wr => ∃ (k : Nat) (j : Int), k ≤ N ∧ j ≤ (N : Int) - 1 - k ∧ (N : Int) - 1 - k ≤ j ∧ i = .int .i64 j ∧ St w [] wr (lay [.row 5 1 v k (((beL N x).take k).map vb)])) (fun _ i _ => (intOf i + 1).toNat)
  case atStart => exact ⟨0, (N : Int) - 1, Nat.zero_le _, by omega, by omega, rfl, by simpa using H0⟩
  case round =>
    clear H0
    obtain ⟨k, j, hk, hj1, hj2, rfl, Hk⟩ := hrel
    by_cases hlt : k < N
    · obtain ⟨d, rfl⟩ := Int.eq_ofNat_of_zero_le (by omega : 0 ≤ j)
      have hd : N - 1 - k = d := by omega
      have hg := beL_get (x := x) hlt
      rw [hd] at hg
      have HT : Hid ((beL N x).take (k + 1) = (beL N x).take k ++ [UInt8.ofNat (x / 256 ^ d)]) := by unfold Hid; rw [List.take_add_one, hg]; rfl
      have hbe := byte_eq x d
      have hr := Hk.row 0 rfl
      clear hg hd
      generalize UInt8.ofNat (x / 256 ^ d) = y at HT hbe
      go_wp2_with (at_builtin; rw [hbe]; refine wpList_append_any _ rfl (.tmp 13) (.tmp 19) _ rfl 0 5 i0 _ 1 1 Try.underlying25 hi0 hz0 hz1 hz2 rfl (by omega) u5 k _ rfl (hr.alloc _) (some ⟨wr.heap.size, 0, none⟩) 1 1 [vb y] rfl (rd_new0 wr [vb y] _ 1 rfl) (by simp [Value.oneCell']) (by simp only [maxLen]; omega) (by omega) (by omega) ?_; intro v3 w3 hown3 hg3 hat3)
      have H3 := ((Hk.alloc 1 rfl #[vb y] 5).grow 0 rfl hown3 hg3 hat3).sub (E' := lay [.row 5 1 v3 (k + 1) (((beL N x).take k).map vb ++ [vb y])]) (fun i A hA => by cases i with | zero => exact hA | succ i => simp [lay] at hA)
      go_roundw
      case rel => exact ⟨k + 1, (d : Int) - 1, by omega, by omega, by omega, by go_num, by rw [HT.out]; simpa using H3⟩
      case measure => first | (simp [intOf]; omega) | simp [intOf]
    · have hkN : k = N := by omega
      go_wp2
      go_ret
      subst hkN
      rw [List.take_of_length_le (by rw [beL_length]; omega)] at Hk
      have h := Hk.ownRow 0 rfl
      exact ⟨_, rfl, by unfold OwnB; rw [beL_length]; exact h, Hk.below⟩
end Go.Proofs.Ytgfhnbjpdhdhgaa

namespace Go.Proofs.Ytgfhnbjpdhdhgaa
open Go.RowKit
set_option linter.unusedVariables false

/-- a field's name: Handle, Alg, Count, Out, Data, More -/
def nm : Nat → ByteArray
  | 0 => ⟨#[72, 97, 110, 100, 108, 101]⟩
  | 1 => ⟨#[65, 108, 103]⟩
  | 2 => ⟨#[67, 111, 117, 110, 116]⟩
  | 3 => ⟨#[79, 117, 116]⟩
  | 4 => ⟨#[68, 97, 116, 97]⟩
  | _ => ⟨#[77, 111, 114, 101]⟩
abbrev nmV (i : Nat) : Value := .string (nm i)
def usesOf (k : UInt8) : List Nat :=
  if k = 1 then [4] else
  if k = 2 then [0, 1, 3, 4] else
  if k = 3 then [0, 4] else
  if k = 4 then [0] else
  if k = 5 then [0, 4] else
  if k = 6 then [0] else
  if k = 7 then [0, 1, 3, 4, 5] else
  if k = 8 then [0, 1, 2, 3, 4] else
  if k = 9 then [0] else
  if k = 10 then [0] else
  []
theorem uses_1 : usesOf 1 = [4] := rfl
theorem uses_2 : usesOf 2 = [0, 1, 3, 4] := rfl
theorem uses_3 : usesOf 3 = [0, 4] := rfl
theorem uses_4 : usesOf 4 = [0] := rfl
theorem uses_5 : usesOf 5 = [0, 4] := rfl
theorem uses_6 : usesOf 6 = [0] := rfl
theorem uses_7 : usesOf 7 = [0, 1, 3, 4, 5] := rfl
theorem uses_8 : usesOf 8 = [0, 1, 2, 3, 4] := rfl
theorem uses_9 : usesOf 9 = [0] := rfl
theorem uses_10 : usesOf 10 = [0] := rfl
theorem uses_no {k : UInt8} (h1 : k ≠ 1) (h2 : k ≠ 2) (h3 : k ≠ 3) (h4 : k ≠ 4) (h5 : k ≠ 5) (h6 : k ≠ 6) (h7 : k ≠ 7) (h8 : k ≠ 8) (h9 : k ≠ 9) (h10 : k ≠ 10) : usesOf k = [] := by unfold usesOf; simp [h1, h2, h3, h4, h5, h6, h7, h8, h9, h10]
theorem u8_is (k c : UInt8) (h : k ≠ c) (x : Int) (hx : x = (c.toNat : Int)) : ((k.toNat : Int) == x) = false := by
  subst hx
  simp only [beq_eq_false_iff_ne, ne_eq]
  exact fun e => h (UInt8.toNat_inj.1 (by omega))
theorem str_info : (Try.prog.info? 9).map (fun i => (i.zero, i.size, i.bytes)) = some (some (.string ⟨#[]⟩), 1, 16) := by kernel_rfl
theorem nm_one (l : List Nat) : ∀ u ∈ l.map nmV, u.oneCell' = true := by
  intro u hu
  obtain ⟨b, -, rfl⟩ := List.mem_map.1 hu
  rfl
/-- a row of names -/
def UsesP (k : UInt8) (w : World) (e : Ending) (w' : World) : Prop := ∃ v, e = .returned v ∧ w'.ownsRow w.heap.size 9 1 v (usesOf k).length ((usesOf k).map nmV) ∧ Below w.heap.size w w'
theorem refUses_1 (w : World) : Calls Try.prog 52 #[.int .u8 1] w (UsesP 1 w) := by
  unfold UsesP
  rw [uses_1]
  go_enter Try.func52, Try.ntmps52
  go_wp2
  go_ret
  exact ⟨_, rfl, World.ownsRow_lit w _ 1 (Nat.le_refl _) (by simp only [maxLen]; omega) rfl, (Below.refl _ _).alloc (Nat.le_refl _) _⟩
theorem refUses_2 (w : World) : Calls Try.prog 52 #[.int .u8 2] w (UsesP 2 w) := by
  unfold UsesP
  rw [uses_2]
  go_enter Try.func52, Try.ntmps52
  go_wp2
  go_ret
  exact ⟨_, rfl, World.ownsRow_lit w _ 4 (Nat.le_refl _) (by simp only [maxLen]; omega) rfl, (Below.refl _ _).alloc (Nat.le_refl _) _⟩
theorem refUses_3 (w : World) : Calls Try.prog 52 #[.int .u8 3] w (UsesP 3 w) := by
  unfold UsesP
  rw [uses_3]
  go_enter Try.func52, Try.ntmps52
  go_wp2
  go_ret
  exact ⟨_, rfl, World.ownsRow_lit w _ 2 (Nat.le_refl _) (by simp only [maxLen]; omega) rfl, (Below.refl _ _).alloc (Nat.le_refl _) _⟩
theorem refUses_4 (w : World) : Calls Try.prog 52 #[.int .u8 4] w (UsesP 4 w) := by
  unfold UsesP
  rw [uses_4]
  go_enter Try.func52, Try.ntmps52
  go_wp2
  go_ret
  exact ⟨_, rfl, World.ownsRow_lit w _ 1 (Nat.le_refl _) (by simp only [maxLen]; omega) rfl, (Below.refl _ _).alloc (Nat.le_refl _) _⟩
theorem refUses_5 (w : World) : Calls Try.prog 52 #[.int .u8 5] w (UsesP 5 w) := by
  unfold UsesP
  rw [uses_5]
  go_enter Try.func52, Try.ntmps52
  go_wp2
  go_ret
  exact ⟨_, rfl, World.ownsRow_lit w _ 2 (Nat.le_refl _) (by simp only [maxLen]; omega) rfl, (Below.refl _ _).alloc (Nat.le_refl _) _⟩
theorem refUses_6 (w : World) : Calls Try.prog 52 #[.int .u8 6] w (UsesP 6 w) := by
  unfold UsesP
  rw [uses_6]
  go_enter Try.func52, Try.ntmps52
  go_wp2
  go_ret
  exact ⟨_, rfl, World.ownsRow_lit w _ 1 (Nat.le_refl _) (by simp only [maxLen]; omega) rfl, (Below.refl _ _).alloc (Nat.le_refl _) _⟩
theorem refUses_7 (w : World) : Calls Try.prog 52 #[.int .u8 7] w (UsesP 7 w) := by
  unfold UsesP
  rw [uses_7]
  go_enter Try.func52, Try.ntmps52
  go_wp2
  go_ret
  exact ⟨_, rfl, World.ownsRow_lit w _ 5 (Nat.le_refl _) (by simp only [maxLen]; omega) rfl, (Below.refl _ _).alloc (Nat.le_refl _) _⟩
theorem refUses_8 (w : World) : Calls Try.prog 52 #[.int .u8 8] w (UsesP 8 w) := by
  unfold UsesP
  rw [uses_8]
  go_enter Try.func52, Try.ntmps52
  go_wp2
  go_ret
  exact ⟨_, rfl, World.ownsRow_lit w _ 5 (Nat.le_refl _) (by simp only [maxLen]; omega) rfl, (Below.refl _ _).alloc (Nat.le_refl _) _⟩
theorem refUses_9 (w : World) : Calls Try.prog 52 #[.int .u8 9] w (UsesP 9 w) := by
  unfold UsesP
  rw [uses_9]
  go_enter Try.func52, Try.ntmps52
  go_wp2
  go_ret
  exact ⟨_, rfl, World.ownsRow_lit w _ 1 (Nat.le_refl _) (by simp only [maxLen]; omega) rfl, (Below.refl _ _).alloc (Nat.le_refl _) _⟩
theorem refUses_10 (w : World) : Calls Try.prog 52 #[.int .u8 10] w (UsesP 10 w) := by
  unfold UsesP
  rw [uses_10]
  go_enter Try.func52, Try.ntmps52
  go_wp2
  go_ret
  exact ⟨_, rfl, World.ownsRow_lit w _ 1 (Nat.le_refl _) (by simp only [maxLen]; omega) rfl, (Below.refl _ _).alloc (Nat.le_refl _) _⟩
theorem opUses_2 (w : World) : Calls Try.prog 51 #[.int .u8 2] w (UsesP 2 w) := by
  unfold UsesP
  rw [uses_2]
  go_enter Try.func51, Try.ntmps51
  go_wp2
  go_ret
  exact ⟨_, rfl, World.ownsRow_lit w _ 4 (Nat.le_refl _) (by simp only [maxLen]; omega) rfl, (Below.refl _ _).alloc (Nat.le_refl _) _⟩
theorem opUses_7 (w : World) : Calls Try.prog 51 #[.int .u8 7] w (UsesP 7 w) := by
  unfold UsesP
  rw [uses_7]
  go_enter Try.func51, Try.ntmps51
  go_wp2
  go_ret
  exact ⟨_, rfl, World.ownsRow_lit w _ 5 (Nat.le_refl _) (by simp only [maxLen]; omega) rfl, (Below.refl _ _).alloc (Nat.le_refl _) _⟩
theorem opUses_8 (w : World) : Calls Try.prog 51 #[.int .u8 8] w (UsesP 8 w) := by
  unfold UsesP
  rw [uses_8]
  go_enter Try.func51, Try.ntmps51
  go_wp2
  go_ret
  exact ⟨_, rfl, World.ownsRow_lit w _ 5 (Nat.le_refl _) (by simp only [maxLen]; omega) rfl, (Below.refl _ _).alloc (Nat.le_refl _) _⟩
theorem opUses_1 (w : World) : Calls Try.prog 51 #[.int .u8 1] w (UsesP 1 w) := by
  obtain ⟨i0, hi0, hz0, hz1, hz2⟩ := info_parts str_info
  unfold UsesP
  rw [uses_1]
  go_enter Try.func51, Try.ntmps51
  go_wp2_with (at_builtin; refine wpList_append_any _ rfl (.tmp 31) (.tmp 32) _ rfl w.heap.size 9 i0 _ 1 16 Try.underlying65 hi0 hz0 hz1 hz2 rfl (by omega) (.slice none 0 0) 0 [] rfl (World.ownsRow_nil _ _ _ _) (some ⟨w.heap.size, 0, none⟩) 1 1 [nmV 4] rfl (rd_new0 w [nmV 4] _ 1 rfl) (nm_one [4]) (by simp only [maxLen]; omega) (by omega) (by simp) ?_; intro v1 w1 hown1 hg1 hat1)
  go_ret
  exact ⟨_, rfl, hown1, ((Below.refl _ _).alloc (Nat.le_refl _) _).grown hg1 (by simp) (fun g h => by simp [Value.ownBlock] at h)⟩
theorem opUses_4 (w : World) : Calls Try.prog 51 #[.int .u8 4] w (UsesP 4 w) := by
  obtain ⟨i0, hi0, hz0, hz1, hz2⟩ := info_parts str_info
  unfold UsesP
  rw [uses_4]
  go_enter Try.func51, Try.ntmps51
  go_wp2_with (at_builtin; refine wpList_append_any _ rfl (.tmp 27) (.tmp 28) _ rfl w.heap.size 9 i0 _ 1 16 Try.underlying65 hi0 hz0 hz1 hz2 rfl (by omega) (.slice none 0 0) 0 [] rfl (World.ownsRow_nil _ _ _ _) (some ⟨w.heap.size, 0, none⟩) 1 1 [nmV 0] rfl (rd_new0 w [nmV 0] _ 1 rfl) (nm_one [0]) (by simp only [maxLen]; omega) (by omega) (by simp) ?_; intro v1 w1 hown1 hg1 hat1)
  go_ret
  exact ⟨_, rfl, hown1, ((Below.refl _ _).alloc (Nat.le_refl _) _).grown hg1 (by simp) (fun g h => by simp [Value.ownBlock] at h)⟩
theorem opUses_6 (w : World) : Calls Try.prog 51 #[.int .u8 6] w (UsesP 6 w) := by
  obtain ⟨i0, hi0, hz0, hz1, hz2⟩ := info_parts str_info
  unfold UsesP
  rw [uses_6]
  go_enter Try.func51, Try.ntmps51
  go_wp2_with (at_builtin; refine wpList_append_any _ rfl (.tmp 27) (.tmp 28) _ rfl w.heap.size 9 i0 _ 1 16 Try.underlying65 hi0 hz0 hz1 hz2 rfl (by omega) (.slice none 0 0) 0 [] rfl (World.ownsRow_nil _ _ _ _) (some ⟨w.heap.size, 0, none⟩) 1 1 [nmV 0] rfl (rd_new0 w [nmV 0] _ 1 rfl) (nm_one [0]) (by simp only [maxLen]; omega) (by omega) (by simp) ?_; intro v1 w1 hown1 hg1 hat1)
  go_ret
  exact ⟨_, rfl, hown1, ((Below.refl _ _).alloc (Nat.le_refl _) _).grown hg1 (by simp) (fun g h => by simp [Value.ownBlock] at h)⟩
theorem opUses_9 (w : World) : Calls Try.prog 51 #[.int .u8 9] w (UsesP 9 w) := by
  obtain ⟨i0, hi0, hz0, hz1, hz2⟩ := info_parts str_info
  unfold UsesP
  rw [uses_9]
  go_enter Try.func51, Try.ntmps51
  go_wp2_with (at_builtin; refine wpList_append_any _ rfl (.tmp 27) (.tmp 28) _ rfl w.heap.size 9 i0 _ 1 16 Try.underlying65 hi0 hz0 hz1 hz2 rfl (by omega) (.slice none 0 0) 0 [] rfl (World.ownsRow_nil _ _ _ _) (some ⟨w.heap.size, 0, none⟩) 1 1 [nmV 0] rfl (rd_new0 w [nmV 0] _ 1 rfl) (nm_one [0]) (by simp only [maxLen]; omega) (by omega) (by simp) ?_; intro v1 w1 hown1 hg1 hat1)
  go_ret
  exact ⟨_, rfl, hown1, ((Below.refl _ _).alloc (Nat.le_refl _) _).grown hg1 (by simp) (fun g h => by simp [Value.ownBlock] at h)⟩
theorem opUses_10 (w : World) : Calls Try.prog 51 #[.int .u8 10] w (UsesP 10 w) := by
  obtain ⟨i0, hi0, hz0, hz1, hz2⟩ := info_parts str_info
  unfold UsesP
  rw [uses_10]
  go_enter Try.func51, Try.ntmps51
  go_wp2_with (at_builtin; refine wpList_append_any _ rfl (.tmp 27) (.tmp 28) _ rfl w.heap.size 9 i0 _ 1 16 Try.underlying65 hi0 hz0 hz1 hz2 rfl (by omega) (.slice none 0 0) 0 [] rfl (World.ownsRow_nil _ _ _ _) (some ⟨w.heap.size, 0, none⟩) 1 1 [nmV 0] rfl (rd_new0 w [nmV 0] _ 1 rfl) (nm_one [0]) (by simp only [maxLen]; omega) (by omega) (by simp) ?_; intro v1 w1 hown1 hg1 hat1)
  go_ret
  exact ⟨_, rfl, hown1, ((Below.refl _ _).alloc (Nat.le_refl _) _).grown hg1 (by simp) (fun g h => by simp [Value.ownBlock] at h)⟩
theorem opUses_3 (w : World) : Calls Try.prog 51 #[.int .u8 3] w (UsesP 3 w) := by
  obtain ⟨i0, hi0, hz0, hz1, hz2⟩ := info_parts str_info
  unfold UsesP
  rw [uses_3]
  go_enter Try.func51, Try.ntmps51
  go_wp2_with (first | (at_builtin; refine wpList_append_any _ rfl (.tmp 31) (.tmp 32) _ rfl w.heap.size 9 i0 _ 1 16 Try.underlying65 hi0 hz0 hz1 hz2 rfl (by omega) v1 1 [nmV 0] rfl (hown1.alloc _) (some ⟨w1.heap.size, 0, none⟩) 1 1 [nmV 4] rfl (rd_new0 w1 [nmV 4] _ 1 rfl) (nm_one [4]) (by simp only [maxLen]; omega) (by omega) (by have := hb1.size; simp; omega) ?_; intro v2 w2 hown2 hg2 hat2) | (at_builtin; refine wpList_append_any _ rfl (.tmp 27) (.tmp 28) _ rfl w.heap.size 9 i0 _ 1 16 Try.underlying65 hi0 hz0 hz1 hz2 rfl (by omega) (.slice none 0 0) 0 [] rfl (World.ownsRow_nil _ _ _ _) (some ⟨w.heap.size, 0, none⟩) 1 1 [nmV 0] rfl (rd_new0 w [nmV 0] _ 1 rfl) (nm_one [0]) (by simp only [maxLen]; omega) (by omega) (by simp) ?_; intro v1 w1 hown1 hg1 hat1; have hb1 : Below w.heap.size w w1 := ((Below.refl _ _).alloc (Nat.le_refl _) _).grown hg1 (by simp) (fun g h => by simp [Value.ownBlock] at h)))
  go_ret
  exact ⟨_, rfl, hown2, (hb1.alloc hb1.size _).grown hg2 (by have := hb1.size; simp; omega) (fun g h => (World.ownsRow.lt hown1 g h).1)⟩
theorem opUses_5 (w : World) : Calls Try.prog 51 #[.int .u8 5] w (UsesP 5 w) := by
  obtain ⟨i0, hi0, hz0, hz1, hz2⟩ := info_parts str_info
  unfold UsesP
  rw [uses_5]
  go_enter Try.func51, Try.ntmps51
  go_wp2_with (first | (at_builtin; refine wpList_append_any _ rfl (.tmp 31) (.tmp 32) _ rfl w.heap.size 9 i0 _ 1 16 Try.underlying65 hi0 hz0 hz1 hz2 rfl (by omega) v1 1 [nmV 0] rfl (hown1.alloc _) (some ⟨w1.heap.size, 0, none⟩) 1 1 [nmV 4] rfl (rd_new0 w1 [nmV 4] _ 1 rfl) (nm_one [4]) (by simp only [maxLen]; omega) (by omega) (by have := hb1.size; simp; omega) ?_; intro v2 w2 hown2 hg2 hat2) | (at_builtin; refine wpList_append_any _ rfl (.tmp 27) (.tmp 28) _ rfl w.heap.size 9 i0 _ 1 16 Try.underlying65 hi0 hz0 hz1 hz2 rfl (by omega) (.slice none 0 0) 0 [] rfl (World.ownsRow_nil _ _ _ _) (some ⟨w.heap.size, 0, none⟩) 1 1 [nmV 0] rfl (rd_new0 w [nmV 0] _ 1 rfl) (nm_one [0]) (by simp only [maxLen]; omega) (by omega) (by simp) ?_; intro v1 w1 hown1 hg1 hat1; have hb1 : Below w.heap.size w w1 := ((Below.refl _ _).alloc (Nat.le_refl _) _).grown hg1 (by simp) (fun g h => by simp [Value.ownBlock] at h)))
  go_ret
  exact ⟨_, rfl, hown2, (hb1.alloc hb1.size _).grown hg2 (by have := hb1.size; simp; omega) (fun g h => (World.ownsRow.lt hown1 g h).1)⟩
theorem opUses_no (k : UInt8) (w : World) (h1 : k ≠ 1) (h2 : k ≠ 2) (h3 : k ≠ 3) (h4 : k ≠ 4) (h5 : k ≠ 5) (h6 : k ≠ 6) (h7 : k ≠ 7) (h8 : k ≠ 8) (h9 : k ≠ 9) (h10 : k ≠ 10) : Calls Try.prog 51 #[.int .u8 (k.toNat : Int)] w (UsesP k w) := by
  have hu := uses_no h1 h2 h3 h4 h5 h6 h7 h8 h9 h10
  have e1 := u8_is k 1 h1 1 rfl
  have e2 := u8_is k 2 h2 2 rfl
  have e3 := u8_is k 3 h3 3 rfl
  have e4 := u8_is k 4 h4 4 rfl
  have e5 := u8_is k 5 h5 5 rfl
  have e6 := u8_is k 6 h6 6 rfl
  have e7 := u8_is k 7 h7 7 rfl
  have e8 := u8_is k 8 h8 8 rfl
  have e9 := u8_is k 9 h9 9 rfl
  have e10 := u8_is k 10 h10 10 rfl
  clear h1 h2 h3 h4 h5 h6 h7 h8 h9 h10
  unfold UsesP
  rw [hu]
  clear hu
  go_enter Try.func51, Try.ntmps51
  go_wp2
  go_ret
  exact ⟨_, rfl, World.ownsRow_nil _ _ _ _, Below.refl _ _⟩
theorem opUses_s (k : UInt8) (w : World) : Calls Try.prog 51 #[.int .u8 (k.toNat : Int)] w (UsesP k w) := by
  by_cases h1 : k = 1
  · subst h1; exact opUses_1 w
  by_cases h2 : k = 2
  · subst h2; exact opUses_2 w
  by_cases h3 : k = 3
  · subst h3; exact opUses_3 w
  by_cases h4 : k = 4
  · subst h4; exact opUses_4 w
  by_cases h5 : k = 5
  · subst h5; exact opUses_5 w
  by_cases h6 : k = 6
  · subst h6; exact opUses_6 w
  by_cases h7 : k = 7
  · subst h7; exact opUses_7 w
  by_cases h8 : k = 8
  · subst h8; exact opUses_8 w
  by_cases h9 : k = 9
  · subst h9; exact opUses_9 w
  by_cases h10 : k = 10
  · subst h10; exact opUses_10 w
  exact opUses_no k w h1 h2 h3 h4 h5 h6 h7 h8 h9 h10
theorem refUses_no (k : UInt8) (w : World) (h1 : k ≠ 1) (h2 : k ≠ 2) (h3 : k ≠ 3) (h4 : k ≠ 4) (h5 : k ≠ 5) (h6 : k ≠ 6) (h7 : k ≠ 7) (h8 : k ≠ 8) (h9 : k ≠ 9) (h10 : k ≠ 10) : Calls Try.prog 52 #[.int .u8 (k.toNat : Int)] w (UsesP k w) := by
  have hu := uses_no h1 h2 h3 h4 h5 h6 h7 h8 h9 h10
  have e1 := u8_is k 1 h1 1 rfl
  have e2 := u8_is k 2 h2 2 rfl
  have e3 := u8_is k 3 h3 3 rfl
  have e4 := u8_is k 4 h4 4 rfl
  have e5 := u8_is k 5 h5 5 rfl
  have e6 := u8_is k 6 h6 6 rfl
  have e7 := u8_is k 7 h7 7 rfl
  have e8 := u8_is k 8 h8 8 rfl
  have e9 := u8_is k 9 h9 9 rfl
  have e10 := u8_is k 10 h10 10 rfl
  clear h1 h2 h3 h4 h5 h6 h7 h8 h9 h10
  unfold UsesP
  rw [hu]
  clear hu
  go_enter Try.func52, Try.ntmps52
  go_wp2
  go_ret
  exact ⟨_, rfl, World.ownsRow_nil _ _ _ _, Below.refl _ _⟩
theorem refUses_s (k : UInt8) (w : World) : Calls Try.prog 52 #[.int .u8 (k.toNat : Int)] w (UsesP k w) := by
  by_cases h1 : k = 1
  · subst h1; exact refUses_1 w
  by_cases h2 : k = 2
  · subst h2; exact refUses_2 w
  by_cases h3 : k = 3
  · subst h3; exact refUses_3 w
  by_cases h4 : k = 4
  · subst h4; exact refUses_4 w
  by_cases h5 : k = 5
  · subst h5; exact refUses_5 w
  by_cases h6 : k = 6
  · subst h6; exact refUses_6 w
  by_cases h7 : k = 7
  · subst h7; exact refUses_7 w
  by_cases h8 : k = 8
  · subst h8; exact refUses_8 w
  by_cases h9 : k = 9
  · subst h9; exact refUses_9 w
  by_cases h10 : k = 10
  · subst h10; exact refUses_10 w
  exact refUses_no k w h1 h2 h3 h4 h5 h6 h7 h8 h9 h10
end Go.Proofs.Ytgfhnbjpdhdhgaa

namespace Go.Proofs.Ytgfhnbjpdhdhgaa
open Go.RowKit
set_option linter.unusedVariables false

structure OpT where
  kind : UInt8
  handle : Int
  alg : UInt8
  count : Int
  out : Int
  data : List UInt8
  more : List UInt8
abbrev opV (k : UInt8) (h : Int) (a : UInt8) (c o : Int) (d m : Value) : Value := .agg #[.int .u8 (k.toNat : Int), .int .i64 h, .int .u8 (a.toNat : Int), .int .i64 c, .int .i64 o, d, m]
/-- a whole number as a word of 64 bits -/
def u64N (x : Int) : Nat := (x % 18446744073709551616).toNat
theorem u64N_le (x : Int) : u64N x ≤ 18446744073709551615 := by unfold u64N; omega
theorem u64N_eq (x : Int) : x % 18446744073709551616 = (u64N x : Int) := by unfold u64N; omega
theorem own_enc {w : World} {base n : Nat} {v : Value} {l : List UInt8} {xs : List Value} (h : l.map vb = xs) (ho : w.ownsRow base 5 1 v n xs) (hn : n = l.length) : OwnB w base v l := by
  subst h hn; exact ho
def encB (k : UInt8) (h : Int) (a : UInt8) (c o : Int) (d m : List UInt8) : List UInt8 := [k, a] ++ beL 8 (u64N h) ++ beL 8 (u64N c) ++ beL 8 (u64N o) ++ beL 3 d.length ++ beL 3 m.length ++ d ++ m
theorem St.pushOwnB {w0 w w' : World} {F0 : List Nat} {E : Env} {v : Value} {l : List UInt8} (H : St w0 F0 w E) (k : Nat) (hk : E k = none) (ho : OwnB w' w.heap.size v l) (hb : Below w.heap.size w w') : St w0 F0 w' (upd E k (.row 5 1 v l.length (l.map vb))) := H.pushRow k hk hb ho
theorem St.lit {w0 w : World} {F0 : List Nat} {E : Env} (H : St w0 F0 w E) (k : Nat) (hk : E k = none) (e : TypeId) (cs : Array Value) (n : Nat) (hn : cs.size = n) (h1 : n ≤ 1000) (b : Nat) (hb : b = w.heap.size) : St w0 F0 (w.alloc (.cells cs e)) (upd E k (.row e 1 (.slice (some ⟨b, 0, none⟩) n n) n cs.toList)) := by
  subst hb
  exact H.pushRow k hk ((Below.refl _ _).alloc (Nat.le_refl _) _) (World.ownsRow_lit w cs n (Nat.le_refl _) (by simp only [maxLen]; omega) (by omega))
theorem i3_size : (Try.prog.info? 3).map (·.size) = some 1 := by kernel_rfl
theorem i3_notAgg (w : World) : (isAgg 3).run Try.prog w = .ok false w := by simp [isAgg, run_underlying Try.underlying3]
theorem i3_0 (x y z : Int) (w : World) : (Instr.index 77 (.agg #[.int .i64 x, .int .i64 y, .int .i64 z]) (.int .i64 0)).run Try.prog w = .ok (.int .i64 x) w := run_index_agg (P := Try.prog) 77 3 3 #[.int .i64 x, .int .i64 y, .int .i64 z] 0 (.int .i64 x) Try.underlying77 i3_size i3_notAgg (by omega) rfl w
theorem i3_1 (x y z : Int) (w : World) : (Instr.index 77 (.agg #[.int .i64 x, .int .i64 y, .int .i64 z]) (.int .i64 1)).run Try.prog w = .ok (.int .i64 y) w := run_index_agg (P := Try.prog) 77 3 3 #[.int .i64 x, .int .i64 y, .int .i64 z] 1 (.int .i64 y) Try.underlying77 i3_size i3_notAgg (by omega) rfl w
theorem i3_2 (x y z : Int) (w : World) : (Instr.index 77 (.agg #[.int .i64 x, .int .i64 y, .int .i64 z]) (.int .i64 2)).run Try.prog w = .ok (.int .i64 z) w := run_index_agg (P := Try.prog) 77 3 3 #[.int .i64 x, .int .i64 y, .int .i64 z] 2 (.int .i64 z) Try.underlying77 i3_size i3_notAgg (by omega) rfl w

set_option maxHeartbeats 1000000 in
theorem encode_s (k : UInt8) (h : Int) (al : UInt8) (cn ou : Int) (A : Option Addr) (n c : Nat) (B : Option Addr) (m d : Nat) (xs ys : List UInt8) (w : World) (hd : Rd w 1 A n (xs.map vb)) (hm : Rd w 1 B m (ys.map vb)) (hn : n ≤ 16777215) (hn' : m ≤ 16777215) :
    Calls Try.prog 29 #[opV k h al cn ou (.slice A n c) (.slice B m d)] w fun e w' => ∃ v, e = .returned (.tuple #[v, .int .i64 0]) ∧ OwnB w' w.heap.size v (encB k h al cn ou xs ys) ∧ Below w.heap.size w w' := by
  obtain ⟨i0, hi0, hz0, hz1, hz2⟩ := info_parts u8_info
  have hlx : xs.length = n := by simpa using hd.1
  have hly : ys.length = m := by simpa using hm.1
  have Hx := Lib.hid hlx
  have Hy := Lib.hid hly
  clear hlx hly
  have hn1 : ¬ (16777215 : Int) < n := by omega
  have hn2 : ¬ (16777215 : Int) < m := by omega
  have g0 := i3_0 h cn ou
  have g1 := i3_1 h cn ou
  have g2 := i3_2 h cn ou
  have H0 := St.start_lay w []
  go_enter Try.func29, Try.ntmps29
  go_wp2_with fail
  refine absorb_wp (H0.allocAt 0 rfl w.heap.size rfl _ _ |>.push_mk rfl |>.lit 1 rfl _ _ 2 rfl (by omega) (w.heap.size + 1) (by simp) |>.push_mk rfl) ?_
  intro w1 H
  generalize w.heap.size + 1 = gb at H ⊢
  generalize hga : w.heap.size = ga at H ⊢
  clear hga H0
  have e1 := u64N_eq h
  have e2 := u64N_eq cn
  have e3 := u64N_eq ou
  refine wp_loop_rounds 4 ?_
  rw [rounds_succ]
  go_wp2_with fail
  refine (number_s 1 2 8 (u64N h) _ [k, al] H rfl e1 rfl (u64N_le h) (by omega) (by omega)).mono ?_
  rintro e w2 ⟨v2, rfl, H2⟩
  replace H2 := H2.upd_mk (by simp)
  clear H
  go_wp2_with fail
  rw [rounds_succ]
  go_wp2_with fail
  refine (number_s 1 10 8 (u64N cn) _ _ H2 rfl e2 rfl (u64N_le cn) (by omega) (by omega)).mono ?_
  rintro e w3 ⟨v3, rfl, H3⟩
  replace H3 := H3.upd_mk (by simp)
  clear H2
  go_wp2_with fail
  rw [rounds_succ]
  go_wp2_with fail
  refine (number_s 1 18 8 (u64N ou) _ _ H3 rfl e3 rfl (u64N_le ou) (by omega) (by omega)).mono ?_
  rintro e w4 ⟨v4, rfl, H4⟩
  replace H4 := H4.upd_mk (by simp)
  clear H3
  go_wp2_with fail
  rw [rounds_succ]
  go_wp2_with fail
  generalize hp4 : [k, al] ++ beL 8 (u64N h) ++ beL 8 (u64N cn) ++ beL 8 (u64N ou) = p4 at H4
  have P4 := Lib.hid hp4
  clear hp4
  replace H4 : St w [] w4 (lay [.blk ga 31 [.int .u8 (k.toNat : Int), .int .i64 h, .int .u8 (al.toNat : Int), .int .i64 cn, .int .i64 ou, .slice A n c, .slice B m d], .row 5 1 v4 26 (p4.map vb)]) := H4
  clear g0 g1 g2 e1 e2 e3
  have H5 := H4.drew
  clear H4
  go_region_held3 (fun w' => w'.cell? ⟨ga, 5, none⟩ = some (.slice A n c) ∧ w'.cell? ⟨ga, 6, none⟩ = some (.slice B m d)) (first | exact ⟨H7.cell 0 rfl rfl, H7.cell 0 rfl rfl⟩ | exact ⟨H6.cell 0 rfl rfl, H6.cell 0 rfl rfl⟩ | exact ⟨H5.cell 0 rfl rfl, H5.cell 0 rfl rfl⟩) ((first | (go_at_call 60; refine (number_s 1 29 3 m v6 _ H6 rfl (IntWalk.u64_in _ (by omega)) rfl (by omega) (by omega) (by omega)).mono ?_; rintro e w7 ⟨v7, rfl, H7⟩; replace H7 := H7.upd_mk (by simp)) | (go_at_call 60; refine (number_s 1 26 3 n v4 p4 H5 rfl (IntWalk.u64_in _ (by omega)) rfl (by omega) (by omega) (by omega)).mono ?_; rintro e w6 ⟨v6, rfl, H6⟩; replace H6 := H6.upd_mk (by simp))))
  generalize hp7 : p4 ++ beL 3 n ++ beL 3 m = p7 at H7
  have P7 := Lib.hid hp7
  clear hp7
  replace H7 : St w [] w7 (lay [.blk ga 31 [.int .u8 (k.toNat : Int), .int .i64 h, .int .u8 (al.toNat : Int), .int .i64 cn, .int .i64 ou, .slice A n c, .slice B m d], .row 5 1 v7 32 (p7.map vb)]) := H7
  clear H5 H6
  go_wp2
  have H8 := H7.drew
  clear H7
  have hr8 := H8.row 1 rfl
  go_region_held3 (fun w' => w'.cell? ⟨ga, 5, none⟩ = some (.slice A n c) ∧ w'.cell? ⟨ga, 6, none⟩ = some (.slice B m d)) (first | exact ⟨H10.cell 0 rfl rfl, H10.cell 0 rfl rfl⟩ | exact ⟨H9.cell 0 rfl rfl, H9.cell 0 rfl rfl⟩ | exact ⟨H8.cell 0 rfl rfl, H8.cell 0 rfl rfl⟩) ((first | (refine step_append_any _ (by rfl) (.tmp 51) (.tmp 53) _ (by rfl) 0 5 i0 (.int .u8 0) 1 1 Try.underlying25 hi0 hz0 hz1 hz2 rfl (by omega) v9 (32 + n) _ (by rfl) hr9 B m d (ys.map vb) (by rfl) (H9.arg0 hm) (vb_one _) (by simp only [maxLen]; omega) (by omega) (by omega) ?_; intro v10 w10 hown10 hg10 hat10; have H10 := H9.grow 1 rfl hown10 hg10 hat10) | (refine step_append_any _ (by rfl) (.tmp 48) (.tmp 50) _ (by rfl) 0 5 i0 (.int .u8 0) 1 1 Try.underlying25 hi0 hz0 hz1 hz2 rfl (by omega) v7 32 _ (by rfl) hr8 A n c (xs.map vb) (by rfl) (H8.arg0 hd) (vb_one _) (by simp only [maxLen]; omega) (by omega) (by omega) ?_; intro v9 w9 hown9 hg9 hat9; have H9 := (H8.grow 1 rfl hown9 hg9 hat9).upd_mk (by simp); have hr9 := H9.row 1 rfl)))
  all_goals go_wp2
  all_goals go_ret2
  all_goals
    refine ⟨v10, rfl, ?_, H10.below⟩
    refine own_enc ?_ (H10.ownRow 1 rfl) (by simp [encB, beL_length, Hx.out, Hy.out]; omega)
    rw [← P7.out, ← P4.out, ← Hx.out, ← Hy.out]
    simp [encB]

theorem encode_long (k : UInt8) (h : Int) (al : UInt8) (cn ou : Int) (A : Option Addr) (n c : Nat) (B : Option Addr) (m d : Nat) (w : World) (hn : 16777215 < n ∨ 16777215 < m) :
    Calls Try.prog 29 #[opV k h al cn ou (.slice A n c) (.slice B m d)] w fun e w' => e = .returned (.tuple #[.slice none 0 0, .int .i64 9]) ∧ Below w.heap.size w w' := by
  by_cases h1 : 16777215 < n
  · have hn1 : (16777215 : Int) < n := by omega
    clear hn h1
    go_enter Try.func29, Try.ntmps29
    go_wp2
    go_ret2
    exact ⟨rfl, (Below.refl _ _).alloc (Nat.le_refl _) _⟩
  · have hn1 : ¬ (16777215 : Int) < n := by omega
    have hn2 : (16777215 : Int) < m := by omega
    clear hn h1
    go_enter Try.func29, Try.ntmps29
    go_wp2
    go_ret2
    exact ⟨rfl, (Below.refl _ _).alloc (Nat.le_refl _) _⟩
theorem refEncode_long (k : UInt8) (h : Int) (al : UInt8) (cn ou : Int) (A : Option Addr) (n c : Nat) (B : Option Addr) (m d : Nat) (w : World) (hn : 16777215 < n ∨ 16777215 < m) :
    Calls Try.prog 46 #[opV k h al cn ou (.slice A n c) (.slice B m d)] w fun e w' => e = .returned (.tuple #[.slice none 0 0, .int .i64 9]) ∧ Below w.heap.size w w' := by
  by_cases h1 : 16777215 < n
  · have hn1 : (16777215 : Int) < n := by omega
    clear hn h1
    go_enter Try.func46, Try.ntmps46
    go_wp2
    go_ret2
    exact ⟨rfl, (Below.refl _ _).alloc (Nat.le_refl _) _⟩
  · have hn1 : ¬ (16777215 : Int) < n := by omega
    have hn2 : (16777215 : Int) < m := by omega
    clear hn h1
    go_enter Try.func46, Try.ntmps46
    go_wp2
    go_ret2
    exact ⟨rfl, (Below.refl _ _).alloc (Nat.le_refl _) _⟩

set_option maxHeartbeats 1000000 in
theorem refEncode_s (k : UInt8) (h : Int) (al : UInt8) (cn ou : Int) (A : Option Addr) (n c : Nat) (B : Option Addr) (m d : Nat) (xs ys : List UInt8) (w : World) (hd : Rd w 1 A n (xs.map vb)) (hm : Rd w 1 B m (ys.map vb)) (hn : n ≤ 16777215) (hn' : m ≤ 16777215) :
    Calls Try.prog 46 #[opV k h al cn ou (.slice A n c) (.slice B m d)] w fun e w' => ∃ v, e = .returned (.tuple #[v, .int .i64 0]) ∧ OwnB w' w.heap.size v (encB k h al cn ou xs ys) ∧ Below w.heap.size w w' := by
  obtain ⟨i0, hi0, hz0, hz1, hz2⟩ := info_parts u8_info
  have hlx : xs.length = n := by simpa using hd.1
  have hly : ys.length = m := by simpa using hm.1
  have Hx := Lib.hid hlx
  have Hy := Lib.hid hly
  clear hlx hly
  have hn1 : ¬ (16777215 : Int) < n := by omega
  have hn2 : ¬ (16777215 : Int) < m := by omega
  have H0 := St.start_lay w []
  go_enter Try.func46, Try.ntmps46
  go_wp2_with fail
  refine absorb_calls (H0.allocAt 0 rfl w.heap.size rfl _ _ |>.push_mk rfl |>.lit 1 rfl _ _ 2 rfl (by omega) (w.heap.size + 1) (by simp) |>.push_mk rfl) ?_
  intro w1 H
  generalize w.heap.size + 1 = gb at H ⊢
  generalize hga : w.heap.size = ga at H ⊢
  clear hga H0
  have c3 := H.cell 0 rfl (o := 3) rfl
  have c4 := H.cell 0 rfl (o := 4) rfl
  have c5 := H.cell 0 rfl (o := 5) rfl
  have c6 := H.cell 0 rfl (o := 6) rfl
  have e1 := u64N_eq h
  have e2 := u64N_eq cn
  have e3 := u64N_eq ou
  refine (refNumber_s 8 (u64N h) _ e1 rfl (u64N_le h) (by omega)).mono ?_
  rintro e w2 ⟨v2, rfl, ho2, hb2⟩
  obtain ⟨A2, n2, c2, rfl, hn2', hr2⟩ := ho2.shape
  have hl2 := hn2'.out
  rw [beL_length] at hl2
  subst hl2
  replace H := H.call hb2
  have r1 := H.row 1 rfl
  go_wp2_with (at_builtin; refine wpList_append_any _ rfl (.tmp 20) (.tmp 24) _ rfl 0 5 i0 (.int .u8 0) 1 1 Try.underlying25 hi0 hz0 hz1 hz2 rfl (by omega) (.slice (some ⟨gb, 0, none⟩) 2 2) 2 _ rfl r1 A2 8 c2 ((beL 8 (u64N h)).map vb) rfl hr2 (vb_one _) (by simp only [maxLen]; omega) (by omega) (by omega) ?_; intro v11 w3 hown3 hg3 hat3; refine absorb_list ((H.grow 1 rfl hown3 hg3 hat3).upd_mk (by simp)) ?_; clear hown3 hg3 hat3 H r1 hr2 c3 c4 c5 c6; intro w4 H; have c3 := H.cell 0 rfl (o := 3) rfl; have c4 := H.cell 0 rfl (o := 4) rfl; have c5 := H.cell 0 rfl (o := 5) rfl; have c6 := H.cell 0 rfl (o := 6) rfl)
  refine (refNumber_s 8 (u64N cn) _ e2 rfl (u64N_le cn) (by omega)).mono ?_
  rintro e w2 ⟨v2, rfl, ho2, hb2⟩
  obtain ⟨A2, n2, c2, rfl, hn2', hr2⟩ := ho2.shape
  have hl2 := hn2'.out
  rw [beL_length] at hl2
  subst hl2
  replace H := H.call hb2
  have r1 := H.row 1 rfl
  go_wp2_with (at_builtin; refine wpList_append_any _ rfl (.tmp 26) (.tmp 30) _ rfl 0 5 i0 (.int .u8 0) 1 1 Try.underlying25 hi0 hz0 hz1 hz2 rfl (by omega) v11 10 _ rfl r1 A2 8 c2 ((beL 8 (u64N cn)).map vb) rfl hr2 (vb_one _) (by simp only [maxLen]; omega) (by omega) (by omega) ?_; intro v12 w3 hown3 hg3 hat3; refine absorb_list ((H.grow 1 rfl hown3 hg3 hat3).upd_mk (by simp)) ?_; clear hown3 hg3 hat3 H r1 hr2 c3 c4 c5 c6; intro w4 H; have c3 := H.cell 0 rfl (o := 3) rfl; have c4 := H.cell 0 rfl (o := 4) rfl; have c5 := H.cell 0 rfl (o := 5) rfl; have c6 := H.cell 0 rfl (o := 6) rfl)
  refine (refNumber_s 8 (u64N ou) _ e3 rfl (u64N_le ou) (by omega)).mono ?_
  rintro e w2 ⟨v2, rfl, ho2, hb2⟩
  obtain ⟨A2, n2, c2, rfl, hn2', hr2⟩ := ho2.shape
  have hl2 := hn2'.out
  rw [beL_length] at hl2
  subst hl2
  replace H := H.call hb2
  have r1 := H.row 1 rfl
  go_wp2_with (at_builtin; refine wpList_append_any _ rfl (.tmp 32) (.tmp 36) _ rfl 0 5 i0 (.int .u8 0) 1 1 Try.underlying25 hi0 hz0 hz1 hz2 rfl (by omega) v12 18 _ rfl r1 A2 8 c2 ((beL 8 (u64N ou)).map vb) rfl hr2 (vb_one _) (by simp only [maxLen]; omega) (by omega) (by omega) ?_; intro v13 w3 hown3 hg3 hat3; refine absorb_list ((H.grow 1 rfl hown3 hg3 hat3).upd_mk (by simp)) ?_; clear hown3 hg3 hat3 H r1 hr2 c3 c4 c5 c6; intro w4 H; have c3 := H.cell 0 rfl (o := 3) rfl; have c4 := H.cell 0 rfl (o := 4) rfl; have c5 := H.cell 0 rfl (o := 5) rfl; have c6 := H.cell 0 rfl (o := 6) rfl)
  refine (refNumber_s 3 n _ rfl rfl (by omega) (by omega)).mono ?_
  rintro e w2 ⟨v2, rfl, ho2, hb2⟩
  obtain ⟨A2, n2, c2, rfl, hn2', hr2⟩ := ho2.shape
  have hl2 := hn2'.out
  rw [beL_length] at hl2
  subst hl2
  replace H := H.call hb2
  have r1 := H.row 1 rfl
  go_wp2_with (at_builtin; refine wpList_append_any _ rfl (.tmp 38) (.tmp 43) _ rfl 0 5 i0 (.int .u8 0) 1 1 Try.underlying25 hi0 hz0 hz1 hz2 rfl (by omega) v13 26 _ rfl r1 A2 3 c2 ((beL 3 n).map vb) rfl hr2 (vb_one _) (by simp only [maxLen]; omega) (by omega) (by omega) ?_; intro v14 w3 hown3 hg3 hat3; refine absorb_list ((H.grow 1 rfl hown3 hg3 hat3).upd_mk (by simp)) ?_; clear hown3 hg3 hat3 H r1 hr2 c3 c4 c5 c6; intro w4 H; have c3 := H.cell 0 rfl (o := 3) rfl; have c4 := H.cell 0 rfl (o := 4) rfl; have c5 := H.cell 0 rfl (o := 5) rfl; have c6 := H.cell 0 rfl (o := 6) rfl)
  refine (refNumber_s 3 m _ rfl rfl (by omega) (by omega)).mono ?_
  rintro e w2 ⟨v2, rfl, ho2, hb2⟩
  obtain ⟨A2, n2, c2, rfl, hn2', hr2⟩ := ho2.shape
  have hl2 := hn2'.out
  rw [beL_length] at hl2
  subst hl2
  replace H := H.call hb2
  have r1 := H.row 1 rfl
  go_wp2_with (first | (at_builtin; refine wpList_append_any _ rfl (.tmp 56) (.tmp 58) _ rfl 0 5 i0 (.int .u8 0) 1 1 Try.underlying25 hi0 hz0 hz1 hz2 rfl (by omega) v16 (32 + n) _ rfl rv B m d (ys.map vb) rfl (H.arg0 hm) (vb_one _) (by simp only [maxLen]; omega) (by omega) (by omega) ?_; intro v17 w3 hown3 hg3 hat3; refine absorb_list ((H.grow 1 rfl hown3 hg3 hat3).upd_mk (by simp)) ?_; clear hown3 hg3 hat3 H rv c5 c6; intro w4 H; have c5 := H.cell 0 rfl (o := 5) rfl; have c6 := H.cell 0 rfl (o := 6) rfl; have rv := H.row 1 rfl) | (at_builtin; refine wpList_append_any _ rfl (.tmp 52) (.tmp 54) _ rfl 0 5 i0 (.int .u8 0) 1 1 Try.underlying25 hi0 hz0 hz1 hz2 rfl (by omega) v15 (32) _ rfl rv A n c (xs.map vb) rfl (H.arg0 hd) (vb_one _) (by simp only [maxLen]; omega) (by omega) (by omega) ?_; intro v16 w3 hown3 hg3 hat3; refine absorb_list ((H.grow 1 rfl hown3 hg3 hat3).upd_mk (by simp)) ?_; clear hown3 hg3 hat3 H rv c5 c6; intro w4 H; have c5 := H.cell 0 rfl (o := 5) rfl; have c6 := H.cell 0 rfl (o := 6) rfl; have rv := H.row 1 rfl) | (at_builtin; refine wpList_append_any _ rfl (.tmp 45) (.tmp 50) _ rfl 0 5 i0 (.int .u8 0) 1 1 Try.underlying25 hi0 hz0 hz1 hz2 rfl (by omega) v14 29 _ rfl r1 A2 3 c2 ((beL 3 m).map vb) rfl hr2 (vb_one _) (by simp only [maxLen]; omega) (by omega) (by omega) ?_; intro v15 w3 hown3 hg3 hat3; refine absorb_list ((H.grow 1 rfl hown3 hg3 hat3).upd_mk (by simp)) ?_; clear hown3 hg3 hat3 H r1 hr2 c3 c4 c5 c6; intro w4 H; have c5 := H.cell 0 rfl (o := 5) rfl; have c6 := H.cell 0 rfl (o := 6) rfl; have rv := H.row 1 rfl))
  go_ret2
  refine ⟨v17, rfl, ?_, H.below⟩
  refine own_enc ?_ (H.ownRow 1 rfl) (by simp [encB, beL_length, Hx.out, Hy.out]; omega)
  rw [← Hx.out, ← Hy.out]
  simp [encB]
end Go.Proofs.Ytgfhnbjpdhdhgaa
