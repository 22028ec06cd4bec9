/- Texts of this claim, merged: Lib, Row, RowU, RowStB, Sep, Flat, RowD, Rot, Lay, ShaG, Sh2P, Turn, Sh2R, TakeA, Take, Runs, LedP, LedQ, LedW. -/
import Derived.WalkKit
import Derived.WalkSpells
import Derived.WalkLawsBesides
import Derived.Deep.QuietTactic
import Derived.Deep.AppendLies
import Derived.Maps.AppendAt
import Derived.RegionTactic
import Derived.OwnWalk
import Derived.Laws.AppendOwnNone
import Derived.Laws.CopyOwn
import Derived.Deep.RegionLaw
import Derived.Deep.RegionWith
import Derived.Deep.RegionHeld3
import Derived.Deep.DeepFit
import Derived.Deep.DeepCutAuto
import Derived.Deep.Draws
import Derived.BigQuiet
import Derived.StillTailTactics
import Derived.Lib.Hide
import Derived.Test.YtcnphkmcgefjoaaRows
import Derived.ProofKit
import Derived.OpenShut
import Derived.ShutString
import Derived.ChangeOld
import Derived.Below
import Derived.SizedLaws
import Derived.JoinedCond
import Derived.Deep.MidRow
import Derived.Deep.Slices
set_option linter.unusedVariables false

namespace Go.Proofs.Ytcnphkmcgefjoaa
open Go.RowKit

theorem block_of_add (a : Addr) (n : Nat) : (a.add n).block = a.block := by unfold Addr.add; split <;> rfl
theorem add_of_add (a : Addr) (i j : Nat) : (a.add i).add j = a.add (i + j) := by
  unfold Addr.add
  by_cases hi : i = 0 <;> by_cases hj : j = 0 <;> simp [hi, hj, Nat.add_assoc]

theorem bdrewN {B : Nat} {a w : World} (h : Below B a w) (n : Nat) : Below B a (w.drewN n) := ⟨h.os, h.tape, h.output, h.size, h.block⟩

/-- A slice value '.slice A n c' that reads as the cells xs. -/
def Rd (w : World) (size : Nat) (A : Option Addr) (n : Nat) (xs : List Value) : Prop :=
  xs.length = n * size ∧ (0 < n → ∃ ad, A = some ad ∧ ad.block < w.heap.size ∧ ∀ j u, xs[j]? = some u → w.cell? (ad.add j) = some u)

section
variable {w w' : World} {size n : Nat} {A : Option Addr} {xs : List Value}
theorem Rd.none_ : Rd w size A 0 [] := ⟨by simp, fun h => absurd h (by omega)⟩
theorem Rd.at_ {k : Nat} (h : Rd w 1 A n xs) (hk : k < n) : ∃ ad u, A = some ad ∧ ad.block < w.heap.size ∧ xs[k]? = some u ∧ w.cell? (ad.add k) = some u := by
  obtain ⟨ad, e, hb, hc⟩ := h.2 (by omega)
  have hl : k < xs.length := by have := h.1; omega
  exact ⟨ad, xs[k], e, hb, List.getElem?_eq_getElem hl, hc k _ (List.getElem?_eq_getElem hl)⟩
theorem Rd.keep (h : Rd w size A n xs) (hs : w.heap.size ≤ w'.heap.size) (hk : ∀ p : Addr, p.block < w.heap.size → w'.cell? p = w.cell? p) : Rd w' size A n xs :=
  ⟨h.1, fun hn => by
    obtain ⟨ad, e, hb, hc⟩ := h.2 hn
    exact ⟨ad, e, by omega, fun j u hu => (hk _ (by rw [block_of_add]; exact hb)).trans (hc j u hu)⟩⟩
theorem Rd.below (h : Rd w size A n xs) (hb : Below w.heap.size w w') : Rd w' size A n xs := h.keep hb.size fun _ hp => hb.cell hp
theorem Rd.drewN (h : Rd w size A n xs) (k : Nat) : Rd (w.drewN k) size A n xs := h
theorem Rd.of_own {base c : Nat} {e : TypeId} (h : w.ownsRow base e size (.slice A n c) n xs) : Rd w size A n xs := by
  refine ⟨h.1, fun hn => ?_⟩
  obtain ⟨g, cap, hv, _, hlt⟩ := h.form hn
  have hA : A = some ⟨g, 0, none⟩ := by injection hv
  subst hA
  exact ⟨_, rfl, hlt, h.cells (g := g) rfl⟩
end

theorem Rd.new1 (w : World) (u : Value) (t : TypeId) : Rd ((w.alloc (.cells #[u] t)).drew) 1 (some ⟨w.heap.size, 0, none⟩) 1 [u] :=
  ⟨rfl, fun _ => ⟨_, rfl, by simp, cell_one_new _ _ _⟩⟩
/-- A byte as a value. -/
abbrev vb (b : UInt8) : Value := .int .u8 (b.toNat : Int)
theorem Rd.byteAt {w : World} {A : Option Addr} {n k : Nat} {l : List UInt8} (h : Rd w 1 A n (l.map vb)) (hk : k < n) :
    ∃ ad b, A = some ad ∧ l[k]? = some b ∧ w.cell? (ad.add k) = some (.int .u8 (b.toNat : Int)) := by
  obtain ⟨ad, u, rfl, -, hu, hc⟩ := h.at_ hk
  rw [List.getElem?_map] at hu
  cases hb : l[k]? with
  | none => rw [hb] at hu; cases hu
  | some b => rw [hb] at hu; cases hu; exact ⟨ad, b, rfl, rfl, hc⟩
theorem Rd.byteIn {w : World} {A : Option Addr} {n k : Nat} {l : List UInt8} (h : Rd w 1 A n (l.map vb)) (hk : k < n) :
    ∃ ad b, A = some ad ∧ l[k]? = some b ∧ w.cell? (ad.add k) = some (.int .u8 (b.toNat : Int)) ∧ (ad.add k).block < w.heap.size := by
  obtain ⟨ad, b, rfl, hb, hc⟩ := h.byteAt hk
  obtain ⟨ad', e, hl, -⟩ := h.2 (by omega)
  injection e with e
  subst e
  exact ⟨ad, b, rfl, hb, hc, by rw [block_of_add]; exact hl⟩
theorem Rd.take {w : World} {A : Option Addr} {n k : Nat} {l : List UInt8} (h : Rd w 1 A n (l.map vb)) (hk : k ≤ n) : Rd w 1 A k ((l.take k).map vb) := by
  have hl := h.1
  rw [List.length_map] at hl
  refine ⟨by simp; omega, fun hn => ?_⟩
  obtain ⟨ad, rfl, hb, hc⟩ := h.2 (by omega)
  refine ⟨ad, rfl, hb, fun j u hu => hc j u ?_⟩
  rw [List.map_take, List.getElem?_take] at hu
  split at hu
  · exact hu
  · cases hu
theorem Rd.drew_ {w : World} {size n : Nat} {A : Option Addr} {xs : List Value} (h : Rd w size A n xs) : Rd w.drew size A n xs := h
theorem take_succ_eq {α : Type} {l m : List α} {k : Nat} {x : α} (h : l.take k = m.take k) (hx : l[k]? = some x) (hy : m[k]? = some x) : l.take (k + 1) = m.take (k + 1) := by
  rw [List.take_add_one, List.take_add_one, h, hx, hy]
theorem u8_ne {x y : UInt8} (h : ((x.toNat : Int) != (y.toNat : Int)) = true) : x ≠ y := by
  rintro rfl; simp at h
theorem u8_eq {x y : UInt8} (h : ((x.toNat : Int) != (y.toNat : Int)) = false) : x = y := by
  have h' : (x.toNat : Int) = (y.toNat : Int) := by simpa using h
  exact UInt8.toNat_inj.1 (by omega)
theorem ret_bool {a b : Bool} (h : a = b) : Ending.returned (.bool a) = .returned (.bool b) := by rw [h]
section
variable {P : Program} (w : World)

theorem run_append_of_nil (base : Nat) (t ty e : TypeId) (i : TypeInfo) (size : Nat) (ht : P.underlying t = some (.slice e)) (hi : P.info? e = some i)
    (v : Value) (n : Nat) (xs : List Value) (hown : w.ownsRow base e size v n xs) (c : Nat) : (Builtin.append_ #[t, t] ty #[v, .slice none 0 c]).run P w = .ok v w := by
  rcases hown.2 with ⟨rfl, rfl⟩ | ⟨g, cap, cur, rfl, _, _, hnc, _⟩
  · simp [Builtin.append_, run_underlying ht, sizeOf, typeInfo, hi, Builtin.lenOf, Builtin.firstCells]
  · simp [Builtin.append_, run_underlying ht, sizeOf, typeInfo, hi, Builtin.lenOf, Builtin.firstCells, hnc, storeCells]

theorem run_append_any (base : Nat) (t ty e : TypeId) (i : TypeInfo) (z : Value) (size bytes : Nat) (ht : P.underlying t = some (.slice e)) (hi : P.info? e = some i) (hz : i.zero = some z)
    (hsize : i.size = size) (hby : i.bytes = bytes) (hzs : z.cells.size = size) (hsz : 0 < size)
    (v : Value) (n : Nat) (xs : List Value) (hown : w.ownsRow base e size v n xs)
    (A : Option Addr) (m c : Nat) (news : List Value) (hr : Rd w size A m news) (h1 : ∀ u ∈ news, u.oneCell' = true)
    (h63 : n + m ≤ maxLen) (hbytes : (n + m) * bytes ≤ 140737488355328) (hbase : base ≤ w.heap.size) :
    ∃ v' w', (Builtin.append_ #[t, t] ty #[v, .slice A m c]).run P w = .ok v' w' ∧ w'.ownsRow base e size v' (n + m) (xs ++ news) ∧ w.grownBy w' v.ownBlock ∧
      (v'.ownBlock = v.ownBlock ∨ v'.ownBlock = some w.heap.size) := by
  rcases A with _ | ad
  · have hm : m = 0 := by
      rcases Nat.eq_zero_or_pos m with h0 | h0
      · exact h0
      · obtain ⟨ad, h, _⟩ := hr.2 h0
        cases h
    subst hm
    have hn : news = [] := List.eq_nil_of_length_eq_zero (by simpa using hr.1)
    subst hn
    exact ⟨v, w, run_append_of_nil w base t ty e i size ht hi v n xs hown c, by simpa using hown, World.grownBy.refl w _, .inl rfl⟩
  · have hcells : ∀ j u, news[j]? = some u → w.cell? (ad.add j) = some u := by
      intro j u hu
      rcases Nat.eq_zero_or_pos m with h0 | h0
      · subst h0
        have hn : news = [] := List.eq_nil_of_length_eq_zero (by simpa using hr.1)
        subst hn
        simp at hu
      · obtain ⟨ad', h, _, hc⟩ := hr.2 h0
        injection h with h
        subst h
        exact hc j u hu
    obtain ⟨v', w', hrun, h2, h3, _, h5⟩ := run_append_own_at (P := P) w base t ty e i z size bytes ht hi hz hsize hby hzs hsz v n xs hown ad m c news hr.1 hcells h1 h63 hbytes hbase
    exact ⟨v', w', hrun, h2, h3, h5⟩

theorem wp_append_any {o : Oper} {a : Act} {K : Act → World → Prop} {Q : Exit → Act → World → Prop} (s x : Operand) (t : TypeId)
    (ho : o.op = .call { callee := .builtin .append, args := #[s, x], argTypes := #[t, t] })
    (base : Nat) (e : TypeId) (i : TypeInfo) (z : Value) (size bytes : Nat) (ht : P.underlying t = some (.slice e)) (hi : P.info? e = some i) (hz : i.zero = some z)
    (hsize : i.size = size) (hby : i.bytes = bytes) (hzs : z.cells.size = size) (hsz : 0 < size)
    (v : Value) (n : Nat) (xs : List Value) (hs : a.eval s = v) (hown : w.ownsRow base e size v n xs)
    (A : Option Addr) (m c : Nat) (news : List Value) (hx : a.eval x = .slice A m c) (hr : Rd w size A m news) (h1 : ∀ u ∈ news, u.oneCell' = true)
    (h63 : n + m ≤ maxLen) (hbytes : (n + m) * bytes ≤ 140737488355328) (hbase : base ≤ w.heap.size)
    (h : ∀ v' w', w'.ownsRow base e size v' (n + m) (xs ++ news) → w.grownBy w' v.ownBlock → (v'.ownBlock = v.ownBlock ∨ v'.ownBlock = some w.heap.size) → K (a.put o.dst v') w') : o.wp P a w K Q := by
  obtain ⟨v', w', hrun, h2, h3, h4⟩ := run_append_any (P := P) w base t o.type e i z size bytes ht hi hz hsize hby hzs hsz v n xs hown A m c news hr h1 h63 hbytes hbase
  unfold Oper.wp execOp
  simp only [ho, resolve, invoke, builtin, Sem.run_bind, Sem.run_pure, Result.andThen_ok, List.map_toArray, List.map_cons, List.map_nil, hs, hx, hrun]
  exact h v' w' h2 h3 h4

theorem wpList_append_any {ops : Array Oper} {rest : List Oper} {o : Oper} {a : Act} {Q : Exit → Act → World → Prop} (hgd : o.guard = none) (s x : Operand) (t : TypeId)
    (ho : o.op = .call { callee := .builtin .append, args := #[s, x], argTypes := #[t, t] })
    (base : Nat) (e : TypeId) (i : TypeInfo) (z : Value) (size bytes : Nat) (ht : P.underlying t = some (.slice e)) (hi : P.info? e = some i) (hz : i.zero = some z)
    (hsize : i.size = size) (hby : i.bytes = bytes) (hzs : z.cells.size = size) (hsz : 0 < size)
    (v : Value) (n : Nat) (xs : List Value) (hs : a.eval s = v) (hown : w.ownsRow base e size v n xs)
    (A : Option Addr) (m c : Nat) (news : List Value) (hx : a.eval x = .slice A m c) (hr : Rd w size A m news) (h1 : ∀ u ∈ news, u.oneCell' = true)
    (h63 : n + m ≤ maxLen) (hbytes : (n + m) * bytes ≤ 140737488355328) (hbase : base ≤ w.heap.size)
    (h : ∀ v' w', w'.ownsRow base e size v' (n + m) (xs ++ news) → w.grownBy w' v.ownBlock → (v'.ownBlock = v.ownBlock ∨ v'.ownBlock = some w.heap.size) → wpList P ops Q rest (a.put o.dst v') w') : wpList P ops Q (o :: rest) a w :=
  wpList_plain hgd fun _ hK => wp_append_any w s x t ho base e i z size bytes ht hi hz hsize hby hzs hsz v n xs hs hown A m c news hx hr h1 h63 hbytes hbase fun v' w' h2 h3 h4 => hK _ _ (h v' w' h2 h3 h4)

theorem step_append_any {ops : Array Oper} {o : Oper} {a : Act} {K : Act → World → Prop} {Q : Exit → Act → World → Prop} {E : Prop} (hgd : o.guard = none) (s x : Operand) (t : TypeId)
    (ho : o.op = .call { callee := .builtin .append, args := #[s, x], argTypes := #[t, t] })
    (base : Nat) (e : TypeId) (i : TypeInfo) (z : Value) (size bytes : Nat) (ht : P.underlying t = some (.slice e)) (hi : P.info? e = some i) (hz : i.zero = some z)
    (hsize : i.size = size) (hby : i.bytes = bytes) (hzs : z.cells.size = size) (hsz : 0 < size)
    (v : Value) (n : Nat) (xs : List Value) (hs : a.eval s = v) (hown : w.ownsRow base e size v n xs)
    (A : Option Addr) (m c : Nat) (news : List Value) (hx : a.eval x = .slice A m c) (hr : Rd w size A m news) (h1 : ∀ u ∈ news, u.oneCell' = true)
    (h63 : n + m ≤ maxLen) (hbytes : (n + m) * bytes ≤ 140737488355328) (hbase : base ≤ w.heap.size)
    (h : ∀ v' w', w'.ownsRow base e size v' (n + m) (xs ++ news) → w.grownBy w' v.ownBlock → (v'.ownBlock = v.ownBlock ∨ v'.ownBlock = some w.heap.size) → K (a.put o.dst v') w') :
    if Region.wanted o (yielded ops a.tmps) = true then Oper.wp P o a w K Q else E := by
  have hw : Region.wanted o (yielded ops a.tmps) = true := by simp [Region.wanted, hgd]
  rw [if_pos hw]
  exact wp_append_any w s x t ho base e i z size bytes ht hi hz hsize hby hzs hsz v n xs hs hown A m c news hx hr h1 h63 hbytes hbase h
end
theorem quiet_add {P : Program} {f : FuncId} {args : Array Value} {w : World} {a n : Nat} {v : Value}
    (h : Calls P f args (w.drewN (a + n)) fun e w' => e = .returned v ∧ ∃ m, w' = (w.drewN (a + n)).drewN m) :
    Calls P f args (w.drewN (a + n)) fun e w'' => e = .returned v ∧ ∃ m, w'' = w.drewN (a + m) :=
  h.mono fun _ _ ⟨he, m, hm⟩ => ⟨he, n + m, by rw [hm, World.drewN_drewN, Nat.add_assoc]⟩
theorem quiet_add_same {P : Program} {f : FuncId} {args : Array Value} {w : World} {a n : Nat} {v : Value}
    (h : Calls P f args (w.drewN (a + n)) fun e w' => e = .returned v ∧ w' = w.drewN (a + n)) :
    Calls P f args (w.drewN (a + n)) fun e w'' => e = .returned v ∧ ∃ m, w'' = w.drewN (a + m) :=
  h.mono fun _ _ ⟨he, hm⟩ => ⟨he, n, hm⟩
theorem quiet_add_left {P : Program} {f : FuncId} {args : Array Value} {w : World} {a n : Nat} {v : Value}
    (h : Calls P f args (w.drewN (a + n)) fun e w' => e = .returned v ∧ w.drewN (a + n) = w') :
    Calls P f args (w.drewN (a + n)) fun e w'' => e = .returned v ∧ ∃ m, w'' = w.drewN (a + m) :=
  h.mono fun _ _ ⟨he, hm⟩ => ⟨he, n, hm.symm⟩
theorem quiet_left {P : Program} {f : FuncId} {args : Array Value} {w : World} {n : Nat} {v : Value}
    (h : Calls P f args (w.drewN n) fun e w' => e = .returned v ∧ w.drewN n = w') : Calls P f args (w.drewN n) fun e w'' => e = .returned v ∧ ∃ m, w'' = w.drewN m :=
  h.mono fun _ _ ⟨he, hm⟩ => ⟨he, n, hm.symm⟩
end Go.Proofs.Ytcnphkmcgefjoaa

namespace Go.Proofs.Ytcnphkmcgefjoaa
open Go.ChangeShapes Go.WideShapes Go.ChangeAt Go.RowKit
open Go.ChangeMaps (open_string shut_string)

theorem rowOwn : ownKnob Try.prog.godebug = none := by kernel_rfl
theorem rowLaid : laidOutB Try.prog = true := by kernel_rfl
theorem rowBytes : Try.prog.bytesOf 5 = 1 := by kernel_rfl
theorem rowCells : Try.prog.cellsOf 5 = 1 := by kernel_rfl

theorem open_bytes {H : Type} {enc : TypeId × Value → H} {W : World} {ts : List TypeId} {ds : List (DataW H)} {d : DataW H} {p : List MemPlace} {j : Nat} {a : Option Addr} {len cap : Nat} {b : Nat} {sp : Nat → Bool} {hd : Bool}
    (hsz : (DataW.weightsEach Try.prog ts ds).all (· ≤ reachBytes) = true) (ht : ts[j]? = some 22) (hdj : ds[j]? = some d)
    (h : DataW.Trod enc Try.prog W b sp hd 22 (.slice a len cap) d p) : ∃ l : List UInt8, Rd W 1 a len (l.map vb) ∧ len ≤ 140737488351232 := by
  obtain ⟨fuel, hf⟩ := h
  rcases open_ints Try.underlying22 Try.underlying5 rowCells hf with ⟨hcs, _⟩ | ⟨x, l, c, zs, hcs, _, hl, hm, hz, hx, hcell, hwz⟩
  · simp [Value.cells] at hcs
    obtain ⟨rfl, rfl, rfl⟩ := hcs
    exact ⟨[], Rd.none_, by omega⟩
  · simp [Value.cells] at hcs
    obtain ⟨rfl, rfl, rfl⟩ := hcs
    injection hx with hx1 hx2
    subst hx1
    have hs := sized_slice hsz ht hdj Try.underlying22
    rw [rowBytes] at hs
    simp only [lits, List.length_map, List.length_take, List.length_drop, reachBytes] at hs
    have hlz : len ≤ zs.length := by rw [hz]; split <;> omega
    have hb : ∀ (i : Nat) (hi : i < zs.length), 0 ≤ zs[i] ∧ zs[i] ≤ 255 := fun i hi => by
      exact bounds_u8 (hwz _ (List.getElem_mem hi))
    refine ⟨(zs.take len).map fun z => UInt8.ofNat z.toNat, ⟨by simp; omega, fun hn => ⟨x, rfl, ?_, fun i u hu => ?_⟩⟩, by omega⟩
    · have h0 := hcell 0 (by omega)
      have := World.block_lt_of_cell? W _ h0
      rwa [block_of_add] at this
    · rw [List.map_map, List.getElem?_map, List.getElem?_take] at hu
      by_cases hi : i < len
      · rw [if_pos hi, List.getElem?_eq_getElem (by omega)] at hu
        simp only [Option.map_some, Function.comp, Option.some.injEq] at hu
        subst hu
        rw [hcell i (by omega), List.getD_eq_getElem?_getD, List.getElem?_eq_getElem (by omega)]
        have h2 := hb i (by omega)
        simp only [Option.getD_some, vb, UInt8.toNat_ofNat', Option.some.injEq, Value.int.injEq, true_and]
        omega
      · rw [if_neg hi] at hu; cases hu

theorem open_cap {H : Type} {enc : TypeId × Value → H} {W : World} {d : DataW H} {p : List MemPlace} {a : Option Addr} {len cap : Nat} {b : Nat} {sp : Nat → Bool} {hd : Bool}
    (h : DataW.Trod enc Try.prog W b sp hd 22 (.slice a len cap) d p) : len ≤ cap := by
  obtain ⟨fuel, hf⟩ := h
  rcases open_ints Try.underlying22 Try.underlying5 rowCells hf with ⟨hcs, _⟩ | ⟨x, l, c, zs, hcs, _, hl, _⟩
  · simp [Value.cells] at hcs
    obtain ⟨rfl, rfl, rfl⟩ := hcs
    exact Nat.le_refl _
  · simp [Value.cells] at hcs
    obtain ⟨rfl, rfl, rfl⟩ := hcs
    exact hl

theorem u64_of {x : Int} (h : (Lit.int .u64 x).wf = true) : ∃ u : UInt64, x = (u.toNat : Int) := by
  have hb : 0 ≤ x ∧ x ≤ 18446744073709551615 := by
    simp [Lit.wf, IntKind.min, IntKind.max, IntKind.signed, IntKind.bits] at h
    omega
  exact ⟨UInt64.ofNat x.toNat, by rw [UInt64.toNat_ofNat']; omega⟩
theorem u32_of {x : Int} (h : (Lit.int .u32 x).wf = true) : ∃ u : UInt32, x = (u.toNat : Int) := by
  have hb : 0 ≤ x ∧ x ≤ 4294967295 := by
    simp [Lit.wf, IntKind.min, IntKind.max, IntKind.signed, IntKind.bits] at h
    omega
  exact ⟨UInt32.ofNat x.toNat, by rw [UInt32.toNat_ofNat']; omega⟩
theorem u8_of {x : Int} (h : (Lit.int .u8 x).wf = true) : ∃ u : UInt8, x = (u.toNat : Int) := by
  have hb := bounds_u8 h
  exact ⟨UInt8.ofNat x.toNat, by rw [UInt8.toNat_ofNat']; omega⟩
theorem i64_of {x : Int} (h : (Lit.int .i64 x).wf = true) : -9223372036854775808 ≤ x ∧ x ≤ 9223372036854775807 := by
  simp [Lit.wf, IntKind.min, IntKind.max, IntKind.signed, IntKind.bits] at h
  omega
end Go.Proofs.Ytcnphkmcgefjoaa

namespace Go.Proofs.Ytcnphkmcgefjoaa
open Go.ChangeShapes Go.WideShapes Go.ChangeAt Go.RowKit
open Go.ChangeMaps (open_string shut_string)
set_option linter.unusedVariables false

theorem bulk_mem {H : Type} {ds : List (DataW H)} {d : DataW H} {i : Nat} (h : ds[i]? = some d) : Rows.uptoBulk d ≤ Rows.uptoBulkAll ds := by
  induction ds generalizing i with
  | nil => simp at h
  | cons x r ih =>
    rw [Rows.uptoBulkAll]
    cases i with
    | zero => simp at h; subst h; omega
    | succ i => have := ih (i := i) (by simpa using h); omega

theorem upto_of {H : Type} {ds : List (DataW H)} (h : Rows.uptoSmall H ds = true) : Rows.uptoBulkAll ds ≤ 1048576 := by
  unfold Rows.uptoSmall at h
  exact of_decide_eq_true h

theorem bulk_lits {H : Type} (k : IntKind) (zs : List Int) : Rows.uptoBulkAll (lits (H := H) k zs) = zs.length := by
  induction zs with
  | nil => rfl
  | cons z zs ih =>
    show Rows.uptoBulk (DataW.lit (.int k z)) + Rows.uptoBulkAll (lits (H := H) k zs) = _
    rw [ih, List.length_cons]
    show 1 + zs.length = zs.length + 1
    omega

theorem open_bytesU {H : Type} {enc : TypeId × Value → H} {W : World} {d : DataW H} {p : List MemPlace} {a : Option Addr} {len cap : Nat} {b : Nat} {sp : Nat → Bool} {hd : Bool}
    (h : DataW.Trod enc Try.prog W b sp hd 22 (.slice a len cap) d p) (hu : Rows.uptoBulk d ≤ 1048576) : ∃ l : List UInt8, Rd W 1 a len (l.map vb) ∧ len ≤ 1048576 := by
  obtain ⟨fuel, hf⟩ := h
  rcases open_ints Try.underlying22 Try.underlying5 rowCells hf with ⟨hcs, _⟩ | ⟨x, l, c, zs, hcs, _, hl, hm, hz, hx, hcell, hwz⟩
  · simp [Value.cells] at hcs
    obtain ⟨rfl, rfl, rfl⟩ := hcs
    exact ⟨[], Rd.none_, by omega⟩
  · simp [Value.cells] at hcs
    obtain ⟨rfl, rfl, rfl⟩ := hcs
    injection hx with hx1 hx2
    subst hx1
    have hlz : len ≤ zs.length := by rw [hz]; split <;> omega
    have hs : len ≤ 1048576 := by
      rw [Rows.uptoBulk, bulk_lits, List.length_take] at hu
      omega
    have hb : ∀ (i : Nat) (hi : i < zs.length), 0 ≤ zs[i] ∧ zs[i] ≤ 255 := fun i hi => by
      exact bounds_u8 (hwz _ (List.getElem_mem hi))
    refine ⟨(zs.take len).map fun z => UInt8.ofNat z.toNat, ⟨by simp; omega, fun hn => ⟨x, rfl, ?_, fun i u hu => ?_⟩⟩, by omega⟩
    · have h0 := hcell 0 (by omega)
      have := World.block_lt_of_cell? W _ h0
      rwa [block_of_add] at this
    · rw [List.map_map, List.getElem?_map, List.getElem?_take] at hu
      by_cases hi : i < len
      · rw [if_pos hi, List.getElem?_eq_getElem (by omega)] at hu
        simp only [Option.map_some, Function.comp, Option.some.injEq] at hu
        subst hu
        rw [hcell i (by omega), List.getD_eq_getElem?_getD, List.getElem?_eq_getElem (by omega)]
        have h2 := hb i (by omega)
        simp only [Option.getD_some, vb, UInt8.toNat_ofNat', Option.some.injEq, Value.int.injEq, true_and]
        omega
      · rw [if_neg hi] at hu; cases hu

end Go.Proofs.Ytcnphkmcgefjoaa

namespace Go.Proofs.Ytcnphkmcgefjoaa
open Go.ChangeShapes Go.WideShapes Go.ChangeAt Go.RowKit
set_option linter.unusedVariables false
set_option maxRecDepth 100000

theorem bytes_trodU {H : Type} {enc : TypeId × Value → H} {W : World} {b : Nat} {sp : Nat → Bool} {hd : Bool} {fuel : Nat} {c : Value} {x : DataW H × List MemPlace}
    (hu : Rows.uptoBulk x.1 ≤ 1048576) (hf : DataW.trod enc Try.prog W b sp hd fuel 22 [c] = some x) :
    ∃ (a : Option Addr) (len cap : Nat) (l : List UInt8), c = .slice a len cap ∧ Rd W 1 a len (l.map vb) ∧ len ≤ 1048576 ∧ len ≤ cap := by
  rcases open_ints Try.underlying22 Try.underlying5 rowCells hf with ⟨hcs, _⟩ | ⟨x', len, cap, zs, hcs, _, hl, hm, hz, hx, hcell, hwz⟩
  · simp at hcs
    exact ⟨none, 0, 0, [], hcs, Rd.none_, by omega, by omega⟩
  · simp only [List.cons.injEq, and_true] at hcs
    subst hcs
    subst hx
    have hlz : len ≤ zs.length := by rw [hz]; split <;> omega
    have hs : len ≤ 1048576 := by
      rw [Rows.uptoBulk, bulk_lits, List.length_take] at hu
      omega
    have hb : ∀ (i : Nat) (hi : i < zs.length), 0 ≤ zs[i] ∧ zs[i] ≤ 255 := fun i hi => bounds_u8 (hwz _ (List.getElem_mem hi))
    refine ⟨some x', len, cap, (zs.take len).map fun z => UInt8.ofNat z.toNat, rfl, ⟨by simp; omega, fun hn => ⟨x', rfl, ?_, fun i u hu => ?_⟩⟩, by omega, hl⟩
    · have h0 := hcell 0 (by omega)
      have := World.block_lt_of_cell? W _ h0
      rwa [block_of_add] at this
    · rw [List.map_map, List.getElem?_map, List.getElem?_take] at hu
      by_cases hi : i < len
      · rw [if_pos hi, List.getElem?_eq_getElem (by omega)] at hu
        simp only [Option.map_some, Function.comp, Option.some.injEq] at hu
        subst hu
        rw [hcell i (by omega), List.getD_eq_getElem?_getD, List.getElem?_eq_getElem (by omega)]
        have h2 := hb i (by omega)
        simp only [Option.getD_some, vb, UInt8.toNat_ofNat', Option.some.injEq, Value.int.injEq, true_and]
        omega
      · rw [if_neg hi] at hu; cases hu

theorem bool_trodU {H : Type} {enc : TypeId × Value → H} {W : World} {b : Nat} {sp : Nat → Bool} {hd : Bool} {fuel : Nat} {cs : List Value} {x : DataW H × List MemPlace}
    (hf : DataW.trod enc Try.prog W b sp hd fuel 4 cs = some x) : ∃ v : Bool, cs = [.bool v] := by
  obtain ⟨v, e, -⟩ := DataW.trod_bool Try.underlying4 hf
  exact ⟨v, e⟩

end Go.Proofs.Ytcnphkmcgefjoaa

namespace Go.Proofs.Ytcnphkmcgefjoaa
open Go.RowKit
set_option linter.unusedVariables false

/-- A piece of memory: what holds of a world and of the blocks that are its own. -/
structure Own where
  holds : World → List Nat → Prop
  loc : ∀ {w w' : World} {F : List Nat}, holds w F → (∀ g ∈ F, w'.heap[g]? = w.heap[g]?) → holds w' F
  old : ∀ {w : World} {F : List Nat}, holds w F → ∀ g ∈ F, g < w.heap.size

theorem lt_of_heap {w : World} {g : Nat} {o : Obj} (h : w.heap[g]? = some o) : g < w.heap.size := (Array.getElem?_eq_some_iff.1 h).1

/-- A block known whole. -/
def Own.blk (g : Nat) (T : TypeId) (cs : List Value) : Own where
  holds w F := w.heap[g]? = some (.cells cs.toArray T (0, 0)) ∧ F = [g]
  loc := fun ⟨h, e⟩ k => ⟨by rw [k g (by simp [e])]; exact h, e⟩
  old := fun ⟨h, e⟩ k hk => by rw [e] at hk; simp at hk; subst hk; exact lt_of_heap h

theorem ownsRow_loc {w w' : World} {base : Nat} {e : TypeId} {size n : Nat} {v : Value} {xs : List Value} (h : w.ownsRow base e size v n xs) (k : ∀ g ∈ v.ownBlock.toList, w'.heap[g]? = w.heap[g]?) : w'.ownsRow base e size v n xs := by
  refine ⟨h.1, ?_⟩
  rcases h.2 with hn | ⟨g, cap, cur, rfl, hb, hg, rest⟩
  · exact .inl hn
  · exact .inr ⟨g, cap, cur, rfl, hb, by rw [k g (by simp [Value.ownBlock])]; exact hg, rest⟩
theorem ownsRow_base {w : World} {base base' : Nat} {e : TypeId} {size n : Nat} {v : Value} {xs : List Value} (h : w.ownsRow base e size v n xs) (k : ∀ g ∈ v.ownBlock.toList, base' ≤ g) : w.ownsRow base' e size v n xs := by
  refine ⟨h.1, ?_⟩
  rcases h.2 with hn | ⟨g, cap, cur, rfl, hb, rest⟩
  · exact .inl hn
  · exact .inr ⟨g, cap, cur, rfl, k g (by simp [Value.ownBlock]), rest⟩

/-- A slice of one's own: nil, or the beginning of a block. -/
def Own.row (e : TypeId) (size : Nat) (v : Value) (n : Nat) (xs : List Value) : Own where
  holds w F := w.ownsRow 0 e size v n xs ∧ F = v.ownBlock.toList
  loc := fun ⟨h, e⟩ k => ⟨ownsRow_loc h (by rw [← e]; exact k), e⟩
  old := fun ⟨h, e⟩ k hk => by
    rw [e] at hk
    cases hv : v.ownBlock with
    | none => rw [hv] at hk; simp at hk
    | some g => rw [hv] at hk; simp at hk; subst hk; exact (World.ownsRow.lt h _ hv).2

def Own.emp : Own where
  holds _ F := F = []
  loc := fun h _ => h
  old := fun h k hk => by rw [h] at hk; simp at hk

def Own.sep (A B : Own) : Own where
  holds w F := ∃ G H, F = G ++ H ∧ A.holds w G ∧ B.holds w H ∧ ∀ g ∈ G, g ∉ H
  loc := fun ⟨G, H, e, a, b, d⟩ k => ⟨G, H, e, A.loc a fun g hg => k g (by simp [e, hg]), B.loc b fun g hg => k g (by simp [e, hg]), d⟩
  old := fun ⟨G, H, e, a, b, _⟩ g hg => by rw [e, List.mem_append] at hg; exact hg.elim (A.old a g) (B.old b g)

def Own.ex {α : Type} (A : α → Own) : Own where
  holds w F := ∃ a, (A a).holds w F
  loc := fun ⟨a, h⟩ k => ⟨a, (A a).loc h k⟩
  old := fun ⟨a, h⟩ => (A a).old h

def Own.fact (p : Prop) (A : Own) : Own where
  holds w F := p ∧ A.holds w F
  loc := fun ⟨a, h⟩ k => ⟨a, A.loc h k⟩
  old := fun ⟨_, h⟩ => A.old h

/-- What was there, but for the blocks F0, is as it was. -/
structure Low (w0 : World) (F0 : List Nat) (w : World) : Prop where
  os : w.os = w0.os
  tape : w.tape = w0.tape
  output : w.output = w0.output
  size : w0.heap.size ≤ w.heap.size
  block : ∀ k, k < w0.heap.size → k ∉ F0 → w.heap[k]? = w0.heap[k]?

theorem Low.refl (w : World) (F : List Nat) : Low w F w := ⟨rfl, rfl, rfl, Nat.le_refl _, fun _ _ _ => rfl⟩
theorem Low.trans {a b c : World} {F G : List Nat} (h : Low a F b) (k : Low b G c) (hG : ∀ g ∈ G, g ∈ F ∨ a.heap.size ≤ g) : Low a F c :=
  ⟨k.os.trans h.os, k.tape.trans h.tape, k.output.trans h.output, Nat.le_trans h.size k.size, fun i hi hn => (k.block i (Nat.lt_of_lt_of_le hi h.size) fun m => by
    rcases hG i m with e | e
    · exact hn e
    · omega).trans (h.block i hi hn)⟩
theorem Low.of_below {w w' : World} (h : Below w.heap.size w w') (F : List Nat) : Low w F w' := ⟨h.os, h.tape, h.output, h.size, fun k hk _ => h.block k hk⟩
theorem Low.below {w w' : World} (h : Low w [] w') : Below w.heap.size w w' := ⟨h.os, h.tape, h.output, h.size, fun k hk => h.block k hk (by simp)⟩
theorem Low.of_grown {w w' : World} {row : Option Nat} (h : w.grownBy w' row) : Low w row.toList w' := ⟨h.os, h.tape, h.output, h.size, fun k hk hn => h.block k hk (by cases row <;> simp_all)⟩
theorem Low.setCell (w : World) (a : Addr) (u : Value) : Low w [a.block] (w.setCell a u) := ⟨rfl, rfl, rfl, by simp [World.setCell], fun k _ hn => Below.heap_setCell _ _ _ _ (by simpa using hn)⟩
theorem Low.alloc (w : World) (o : Obj) (F : List Nat) : Low w F (w.alloc o) := .of_below ((Below.refl _ _).alloc (Nat.le_refl _) o) F
theorem Low.more {a b : World} {F G : List Nat} (h : Low a F b) (hG : ∀ g ∈ F, g ∈ G) : Low a G b := ⟨h.os, h.tape, h.output, h.size, fun k hk hn => h.block k hk fun m => hn (hG k m)⟩

abbrev Env := Nat → Option Own
def Env.nil : Env := fun _ => none
def upd (E : Env) (k : Nat) (A : Own) : Env := fun i => if i = k then some A else E i
def del (E : Env) (k : Nat) : Env := fun i => if i = k then none else E i

theorem upd_same {E : Env} {k : Nat} {A : Own} : upd E k A k = some A := by simp [upd]
theorem upd_upd {E : Env} {k : Nat} {A B : Own} : upd (upd E k A) k B = upd E k B := by funext i; by_cases h : i = k <;> simp [upd, h]
theorem upd_id {E : Env} {k : Nat} {A : Own} (h : E k = some A) : upd E k A = E := by funext i; by_cases hi : i = k <;> simp [upd, hi, h]
/-- The state of a walk that began at w0 with the blocks F0 as its own: the pieces of E, apart from one another, all else as it was. -/
structure St (w0 : World) (F0 : List Nat) (w : World) (E : Env) : Prop where
  low : Low w0 F0 w
  own : ∃ Fs : Nat → List Nat, (∀ i A, E i = some A → A.holds w (Fs i) ∧ ∀ g ∈ Fs i, g ∈ F0 ∨ w0.heap.size ≤ g) ∧ ∀ i j A B, i ≠ j → E i = some A → E j = some B → ∀ g ∈ Fs i, g ∉ Fs j

section
variable {w0 w w' : World} {F0 : List Nat} {E : Env}

theorem St.start (w : World) (F : List Nat) : St w F w Env.nil := ⟨Low.refl _ _, fun _ => [], ⟨fun _ _ h => (by cases h), fun _ _ _ _ _ h => (by cases h)⟩⟩

/-- One piece is looked at, and may be exchanged for what has become of it. -/
theorem St.change {A : Own} (H : St w0 F0 w E) (k : Nat) (hk : E k = some A) :
    ∃ F, A.holds w F ∧ (∀ g ∈ F, g ∈ F0 ∨ w0.heap.size ≤ g) ∧ (∀ j B, j ≠ k → E j = some B → ∃ G, B.holds w G ∧ ∀ g ∈ G, g ∉ F) ∧
      ∀ (w' : World) (A' : Own) (F' : List Nat), A'.holds w' F' → Low w F w' → (∀ g ∈ F', g ∈ F ∨ w.heap.size ≤ g) → St w0 F0 w' (upd E k A') := by
  obtain ⟨lo, Fs, h1, h2⟩ := H
  refine ⟨Fs k, (h1 k A hk).1, (h1 k A hk).2, fun j B hj hB => ⟨Fs j, (h1 j B hB).1, h2 j k B A hj hB hk⟩, fun w' A' F' hA' hl hF' => ?_⟩
  have hold : ∀ i B, E i = some B → ∀ g ∈ Fs i, g < w.heap.size := fun i B hB => B.old (h1 i B hB).1
  refine ⟨lo.trans hl (h1 k A hk).2, fun i => if i = k then F' else Fs i, fun i B hB => ?_, fun i j B C hij hB hC g hg => ?_⟩
  · by_cases hi : i = k
    · subst hi
      simp only [upd, if_true, Option.some.injEq] at hB
      subst hB
      simp only [if_true]
      refine ⟨hA', fun g hg => ?_⟩
      rcases hF' g hg with h | h
      · exact (h1 i A hk).2 g h
      · exact .inr (Nat.le_trans lo.size h)
    · simp only [upd, if_neg hi] at hB
      simp only [if_neg hi]
      refine ⟨B.loc (h1 i B hB).1 fun g hg => hl.block g (hold i B hB g hg) (h2 i k B A hi hB hk g hg), (h1 i B hB).2⟩
  · by_cases hi : i = k
    · subst hi
      have hj : j ≠ i := fun e => hij e.symm
      simp only [upd, if_neg hj] at hC
      simp only [if_true] at hg
      simp only [if_neg hj]
      rcases hF' g hg with h | h
      · exact h2 i j A C hij hk hC g h
      · exact fun m => by have := hold j C hC g m; omega
    · simp only [upd, if_neg hi] at hB
      simp only [if_neg hi] at hg
      by_cases hj : j = k
      · subst hj
        simp only [if_true]
        intro m
        rcases hF' g m with h | h
        · exact h2 i j B A hij hB hk g hg h
        · have := hold i B hB g hg; omega
      · simp only [upd, if_neg hj] at hC
        simp only [if_neg hj]
        exact h2 i j B C hij hB hC g hg

theorem St.call (H : St w0 F0 w E) (hb : Below w.heap.size w w') : St w0 F0 w' E := by
  obtain ⟨lo, Fs, h1, h2⟩ := H
  exact ⟨lo.trans (.of_below hb []) (by simp), Fs, fun i B hB => ⟨B.loc (h1 i B hB).1 fun g hg => hb.block g (B.old (h1 i B hB).1 g hg), (h1 i B hB).2⟩, h2⟩
theorem St.drewN (H : St w0 F0 w E) (n : Nat) : St w0 F0 (w.drewN n) E := H.call (bdrewN (Below.refl _ _) n)
theorem St.drew (H : St w0 F0 w E) : St w0 F0 w.drew E := H.call (Below.refl _ _).drew

theorem St.push {A : Own} {F : List Nat} (H : St w0 F0 w E) (k : Nat) (hk : E k = none) (hb : Below w.heap.size w w') (hA : A.holds w' F) (hF : ∀ g ∈ F, w.heap.size ≤ g) : St w0 F0 w' (upd E k A) := by
  obtain ⟨lo, Fs, h1, h2⟩ := H
  have hold : ∀ i B, E i = some B → ∀ g ∈ Fs i, g < w.heap.size := fun i B hB => B.old (h1 i B hB).1
  have hne : ∀ i B, E i = some B → i ≠ k := fun i B hB e => by subst e; rw [hk] at hB; cases hB
  refine ⟨lo.trans (.of_below hb []) (by simp), fun i => if i = k then F else Fs i, fun i B hB => ?_, fun i j B C hij hB hC g hg => ?_⟩
  · by_cases hi : i = k
    · subst hi
      simp only [upd, if_true, Option.some.injEq] at hB
      subst hB
      simp only [if_true]
      exact ⟨hA, fun g hg => .inr (Nat.le_trans lo.size (hF g hg))⟩
    · simp only [upd, if_neg hi] at hB
      simp only [if_neg hi]
      exact ⟨B.loc (h1 i B hB).1 fun g hg => hb.block g (hold i B hB g hg), (h1 i B hB).2⟩
  · by_cases hi : i = k
    · subst hi
      have hj : j ≠ i := fun e => hij e.symm
      simp only [upd, if_neg hj] at hC
      simp only [if_true] at hg
      simp only [if_neg hj]
      exact fun m => by have := hold j C hC g m; have := hF g hg; omega
    · simp only [upd, if_neg hi] at hB
      simp only [if_neg hi] at hg
      by_cases hj : j = k
      · subst hj
        simp only [if_true]
        exact fun m => by have := hold i B hB g hg; have := hF g m; omega
      · simp only [upd, if_neg hj] at hC
        simp only [if_neg hj]
        exact h2 i j B C hij hB hC g hg

/-- fewer pieces are known of -/
theorem St.sub {E' : Env} (H : St w0 F0 w E) (h : ∀ k A, E' k = some A → E k = some A) : St w0 F0 w E' := by
  obtain ⟨lo, Fs, h1, h2⟩ := H
  exact ⟨lo, Fs, fun i A hA => h1 i A (h i A hA), fun i j A B hij hA hB => h2 i j A B hij (h i A hA) (h j B hB)⟩
theorem St.env {E' : Env} (H : St w0 F0 w E) (h : ∀ k, E' k = E k) : St w0 F0 w E' := H.sub fun k A hA => by rw [← h k]; exact hA
theorem St.below {E : Env} (H : St w0 [] w E) : Below w0.heap.size w0 w := H.low.below

/- blocks -/
theorem St.blk {g : Nat} {T : TypeId} {cs : List Value} (H : St w0 F0 w E) (k : Nat) (hk : E k = some (.blk g T cs)) : w.heap[g]? = some (.cells cs.toArray T (0, 0)) := by
  obtain ⟨F, h, -⟩ := H.change k hk
  exact h.1
theorem St.blkIn {g : Nat} {T : TypeId} {cs : List Value} (H : St w0 F0 w E) (k : Nat) (hk : E k = some (.blk g T cs)) : g ∈ F0 ∨ w0.heap.size ≤ g := by
  obtain ⟨F, ⟨-, e⟩, h, -⟩ := H.change k hk
  exact h g (by simp [e])
theorem St.cell {g o : Nat} {T : TypeId} {cs : List Value} {u : Value} (H : St w0 F0 w E) (k : Nat) (hk : E k = some (.blk g T cs)) (hu : cs[o]? = some u) : w.cell? ⟨g, o, none⟩ = some u := by
  rw [cell_of_row w g o _ _ _ (H.blk k hk)]; simpa using hu
theorem St.free {g : Nat} {T : TypeId} {cs : List Value} (H : St w0 F0 w E) (k : Nat) (hk : E k = some (.blk g T cs)) (o : Nat) : w.frozen? ⟨g, o, none⟩ = false := frozen_of_row w g o _ _ (H.blk k hk)
theorem St.lt {g : Nat} {T : TypeId} {cs : List Value} (H : St w0 F0 w E) (k : Nat) (hk : E k = some (.blk g T cs)) : g < w.heap.size := lt_of_heap (H.blk k hk)
theorem St.store {g o : Nat} {T : TypeId} {cs : List Value} {u : Value} (H : St w0 F0 w E) (k : Nat) (hk : E k = some (.blk g T cs)) : St w0 F0 (w.setCell ⟨g, o, none⟩ u) (upd E k (.blk g T (cs.set o u))) := by
  obtain ⟨F, ⟨h, e⟩, -, -, hc⟩ := H.change k hk
  subst e
  refine hc _ _ [g] ⟨?_, rfl⟩ (Low.setCell w ⟨g, o, none⟩ u) (by simp)
  simp only [World.setCell, Array.getElem?_modify, if_true, h]
  simp
theorem St.alloc (H : St w0 F0 w E) (k : Nat) (hk : E k = none) (cs : Array Value) (T : TypeId) : St w0 F0 (w.alloc (.cells cs T)) (upd E k (.blk w.heap.size T cs.toList)) :=
  H.push k hk ((Below.refl _ _).alloc (Nat.le_refl _) _) (F := [w.heap.size]) ⟨by rw [heap_alloc_new], rfl⟩ (by simp)
theorem St.allocAt (H : St w0 F0 w E) (k : Nat) (hk : E k = none) (b : Nat) (hb : b = w.heap.size) (cs : Array Value) (T : TypeId) : St w0 F0 (w.alloc (.cells cs T)) (upd E k (.blk b T cs.toList)) := by
  subst hb; exact H.alloc k hk cs T
theorem St.ne {g g' : Nat} {T T' : TypeId} {cs cs' : List Value} (H : St w0 F0 w E) (k k' : Nat) (hk : E k = some (.blk g T cs)) (hk' : E k' = some (.blk g' T' cs')) (hne : k ≠ k') : g ≠ g' := by
  obtain ⟨F, ⟨-, e⟩, -, hd, -⟩ := H.change k hk
  obtain ⟨G, ⟨-, e'⟩, hd'⟩ := hd k' _ (fun e => hne e.symm) hk'
  subst e e'
  intro h
  exact hd' g' (by simp) (by simp [h])

/- rows -/
variable {e : TypeId} {size n : Nat} {v : Value} {xs : List Value}
theorem St.row (H : St w0 F0 w E) (k : Nat) (hk : E k = some (.row e size v n xs)) : w.ownsRow 0 e size v n xs := by
  obtain ⟨F, h, -⟩ := H.change k hk
  exact h.1
theorem St.rd {A : Option Addr} {c : Nat} (H : St w0 F0 w E) (k : Nat) (hk : E k = some (.row e size (.slice A n c) n xs)) : Rd w size A n xs := Rd.of_own (H.row k hk)
/-- a slice that is read only, and is none of the own ones -/
def RdF (w : World) (F : List Nat) (size : Nat) (A : Option Addr) (n : Nat) (xs : List Value) : Prop := Rd w size A n xs ∧ (0 < n → ∀ ad, A = some ad → ad.block ∉ F)
theorem Rd.rdF {A : Option Addr} (h : Rd w size A n xs) : RdF w [] size A n xs := ⟨h, fun _ _ _ => by simp⟩
theorem RdF.keep {A : Option Addr} {F : List Nat} (h : RdF w0 F size A n xs) (lo : Low w0 F w) : RdF w F size A n xs := by
  refine ⟨⟨h.1.1, fun hn => ?_⟩, h.2⟩
  obtain ⟨ad, rfl, hb, hc⟩ := h.1.2 hn
  refine ⟨ad, rfl, Nat.lt_of_lt_of_le hb lo.size, fun j u hu => ?_⟩
  rw [← hc j u hu]
  exact World.cell?_of_block (lo.block _ (by rw [block_of_add]; exact hb) (by rw [block_of_add]; exact h.2 hn ad rfl))
theorem St.arg {A : Option Addr} (H : St w0 F0 w E) (h : RdF w0 F0 size A n xs) : Rd w size A n xs := (h.keep H.low).1
theorem St.arg0 {A : Option Addr} {E : Env} (H : St w0 [] w E) (h : Rd w0 size A n xs) : Rd w size A n xs := (h.rdF.keep H.low).1

theorem St.pushRow (H : St w0 F0 w E) (k : Nat) (hk : E k = none) (hb : Below w.heap.size w w') (ho : w'.ownsRow w.heap.size e size v n xs) : St w0 F0 w' (upd E k (.row e size v n xs)) :=
  H.push k hk hb (A := .row e size v n xs) ⟨ownsRow_base ho (by simp), rfl⟩ (fun g hg => by
    cases hv : v.ownBlock with
    | none => rw [hv] at hg; simp at hg
    | some g' => rw [hv] at hg; simp at hg; subst hg; exact (World.ownsRow.lt ho _ hv).1)
theorem St.nilRow (H : St w0 F0 w E) (k : Nat) (hk : E k = none) (e : TypeId) (size : Nat) : St w0 F0 w (upd E k (.row e size (.slice none 0 0) 0 [])) :=
  H.pushRow k hk (Below.refl _ _) (World.ownsRow_nil _ _ _ _)
/-- an append (or another law that ends in grownBy) has made of the row another one -/
theorem St.grow {v' : Value} {n' : Nat} {xs' : List Value} (H : St w0 F0 w E) (k : Nat) (hk : E k = some (.row e size v n xs)) (ho : w'.ownsRow 0 e size v' n' xs') (hg : w.grownBy w' v.ownBlock)
    (hat : v'.ownBlock = v.ownBlock ∨ v'.ownBlock = some w.heap.size) : St w0 F0 w' (upd E k (.row e size v' n' xs')) := by
  obtain ⟨F, ⟨h, eF⟩, -, -, hc⟩ := H.change k hk
  subst eF
  refine hc _ _ v'.ownBlock.toList ⟨ho, rfl⟩ (Low.of_grown hg) (fun g hm => ?_)
  rcases hat with h1 | h1
  · rw [h1] at hm; exact .inl hm
  · rw [h1] at hm; simp at hm; subst hm; exact .inr (Nat.le_refl _)
theorem St.rowStore {g c o : Nat} {u : Value} (H : St w0 F0 w E) (k : Nat) (hk : E k = some (.row e size (.slice (some ⟨g, 0, none⟩) n c) n xs)) : St w0 F0 (w.setCell ⟨g, o, none⟩ u) (upd E k (.row e size (.slice (some ⟨g, 0, none⟩) n c) n (xs.set o u))) := by
  have hs := World.ownsRow.stored (H.row k hk) o u
  exact H.grow k hk hs.1 hs.2 (.inl rfl)

/-- Two pieces become one. -/
theorem St.join {A B : Own} (H : St w0 F0 w E) (i j : Nat) (hij : i ≠ j) (hi : E i = some A) (hj : E j = some B) : St w0 F0 w (upd (del E j) i (.sep A B)) := by
  obtain ⟨lo, Fs, h1, h2⟩ := H
  refine ⟨lo, fun m => if m = i then Fs i ++ Fs j else Fs m, fun m C hC => ?_, fun m l C D hml hC hD g hg => ?_⟩
  · by_cases hm : m = i
    · subst hm
      simp only [upd, if_true, Option.some.injEq] at hC
      subst hC
      simp only [if_true]
      exact ⟨⟨Fs m, Fs j, rfl, (h1 m A hi).1, (h1 j B hj).1, h2 m j A B hij hi hj⟩, fun g hg => by
        rw [List.mem_append] at hg; exact hg.elim ((h1 m A hi).2 g) ((h1 j B hj).2 g)⟩
    · have hmj : m ≠ j := fun e => by subst e; simp [upd, del, hm] at hC
      simp only [upd, del, if_neg hm, if_neg hmj] at hC
      simp only [if_neg hm]
      exact h1 m C hC
  · by_cases hm : m = i
    · have hl : l ≠ i := fun e => hml (hm.trans e.symm)
      have hlj : l ≠ j := fun e => by subst e; simp [upd, del, hl] at hD
      simp only [upd, del, if_neg hl, if_neg hlj] at hD
      subst hm
      simp only [if_true, List.mem_append] at hg
      simp only [if_neg hl]
      exact hg.elim (h2 m l A D (fun e => hl e.symm) hi hD g) (h2 j l B D (fun e => hlj e.symm) hj hD g)
    · have hmj : m ≠ j := fun e => by subst e; simp [upd, del, hm] at hC
      simp only [upd, del, if_neg hm, if_neg hmj] at hC
      simp only [if_neg hm] at hg
      by_cases hl : l = i
      · subst hl
        simp only [if_true, List.mem_append]
        exact fun h => h.elim (h2 m l C A hm hC hi g hg) (h2 m j C B hmj hC hj g hg)
      · have hlj : l ≠ j := fun e => by subst e; simp [upd, del, hl] at hD
        simp only [upd, del, if_neg hl, if_neg hlj] at hD
        simp only [if_neg hl]
        exact h2 m l C D hml hC hD g hg
/-- One piece that is two. -/
theorem St.part {A B : Own} (H : St w0 F0 w E) (i j : Nat) (hij : i ≠ j) (hi : E i = some (.sep A B)) (hj : E j = none) : St w0 F0 w (upd (upd E i A) j B) := by
  obtain ⟨lo, Fs, h1, h2⟩ := H
  obtain ⟨⟨G, K, eF, ha, hb, hd⟩, hlo⟩ := h1 i _ hi
  have hG : ∀ g ∈ G, g ∈ Fs i := fun g h => by rw [eF]; simp [h]
  have hK : ∀ g ∈ K, g ∈ Fs i := fun g h => by rw [eF]; simp [h]
  refine ⟨lo, fun m => if m = j then K else if m = i then G else Fs m, fun m C hC => ?_, fun m l C D hml hC hD g hg => ?_⟩
  · by_cases hmj : m = j
    · subst hmj
      simp only [upd, if_true, Option.some.injEq] at hC
      subst hC
      simp only [if_true]
      exact ⟨hb, fun g hg => hlo g (hK g hg)⟩
    · by_cases hmi : m = i
      · subst hmi
        simp only [upd, if_neg hmj, if_true, Option.some.injEq] at hC
        subst hC
        simp only [if_neg hmj, if_true]
        exact ⟨ha, fun g hg => hlo g (hG g hg)⟩
      · simp only [upd, if_neg hmj, if_neg hmi] at hC
        simp only [if_neg hmj, if_neg hmi]
        exact h1 m C hC
  · have key : ∀ m C, m ≠ j → m ≠ i → upd (upd E i A) j B m = some C → E m = some C := fun m C h h' hC => by simpa only [upd, if_neg h, if_neg h'] using hC
    by_cases hmj : m = j
    · have hlj : l ≠ j := fun e => hml (hmj.trans e.symm)
      simp only [hmj, if_true] at hg
      simp only [if_neg hlj]
      by_cases hli : l = i
      · simp only [hli, if_true]; exact fun h => hd g h hg
      · simp only [if_neg hli]; exact h2 i l _ D (fun e => hli e.symm) hi (key l D hlj hli hD) g (hK g hg)
    · by_cases hmi : m = i
      · have hli : l ≠ i := fun e => hml (hmi.trans e.symm)
        simp only [hmi, if_neg hij, if_true] at hg
        by_cases hlj : l = j
        · simp only [hlj, if_true]; exact hd g hg
        · simp only [if_neg hlj, if_neg hli]; exact h2 i l _ D (fun e => hli e.symm) hi (key l D hlj hli hD) g (hG g hg)
      · simp only [if_neg hmj, if_neg hmi] at hg
        have hCm := key m C hmj hmi hC
        by_cases hlj : l = j
        · simp only [hlj, if_true]; exact fun h => h2 m i C _ hmi hCm hi g hg (hK g h)
        · by_cases hli : l = i
          · show g ∉ (if l = j then K else if l = i then G else Fs l); rw [if_neg hlj, if_pos hli]; exact fun h => h2 m i C _ hmi hCm hi g hg (hG g h)
          · simp only [if_neg hlj, if_neg hli]; exact h2 m l C D hml hCm (key l D hlj hli hD) g hg
theorem rd_new (w : World) (us : List Value) (t : TypeId) (size : Nat) (h : us.length = size) : Rd ((w.alloc (.cells us.toArray t)).drew) size (some ⟨w.heap.size, 0, none⟩) 1 us :=
  ⟨by omega, fun _ => ⟨_, rfl, by simp, fun j u hu => by
    rw [Addr.add_mid, Nat.zero_add]
    show (w.alloc (.cells us.toArray t)).cell? _ = _
    rw [World.cell?_alloc_at _ _ _ _ rfl]; simpa using hu⟩⟩
theorem Rd.flat {w : World} {size n : Nat} {A : Option Addr} {xs : List Value} (h : Rd w size A n xs) (hn : 0 < n) (hs : 0 < size) : ∃ b o, A = some ⟨b, o, none⟩ ∧ b < w.heap.size ∧ ∀ j u, xs[j]? = some u → w.cell? ⟨b, o + j, none⟩ = some u := by
  obtain ⟨ad, rfl, hb, hc⟩ := h.2 hn
  have hl : 0 < xs.length := by rw [h.1]; exact Nat.mul_pos hn hs
  have h0 := hc 0 _ (List.getElem?_eq_getElem hl)
  obtain ⟨b, o, sp⟩ := ad
  cases sp with
  | some s => simp [Addr.add, World.cell?] at h0; split at h0 <;> simp at h0
  | none => exact ⟨b, o, rfl, hb, fun j u hu => by rw [← hc j u hu, Addr.add_mid]⟩
/- a walk of its own over one piece, or two -/
def one (A : Own) : Env := upd Env.nil 0 A
def two (A B : Own) : Env := upd (upd Env.nil 0 A) 1 B
theorem St.out {A : Own} {F : List Nat} (H : St w F w' E) (k : Nat) (hk : E k = some A) : ∃ F', A.holds w' F' ∧ Low w F w' ∧ ∀ g ∈ F', g ∈ F ∨ w.heap.size ≤ g := by
  obtain ⟨F', h1, h2, -⟩ := H.change k hk
  exact ⟨F', h1, H.low, h2⟩
theorem St.in1 {A : Own} {F : List Nat} (h : A.holds w F) : St w F w (one A) := by
  refine ⟨Low.refl _ _, fun _ => F, ⟨fun i B hB => ?_, fun i j B C hij hB hC => ?_⟩⟩
  · by_cases hi : i = 0
    · subst hi; simp [one, upd] at hB; subst hB; exact ⟨h, fun g hg => .inl hg⟩
    · simp [one, upd, hi, Env.nil] at hB
  · have h1 : i = 0 := by
      apply Classical.byContradiction; intro hi; simp [one, upd, hi, Env.nil] at hB
    have h2 : j = 0 := by
      apply Classical.byContradiction; intro hj; simp [one, upd, hj, Env.nil] at hC
    omega
theorem St.frame1 {A : Own} (H : St w0 F0 w E) (i : Nat) (hi : E i = some A) :
    ∃ F, St w F w (one A) ∧ (∀ (size : Nat) (A : Option Addr) (n : Nat) (xs : List Value), RdF w F0 size A n xs → (∀ ad, A = some ad → ad.block < w0.heap.size) → RdF w F size A n xs) ∧
      (∀ j B, j ≠ i → E j = some B → ∃ G, B.holds w G ∧ ∀ g ∈ G, g ∉ F) ∧ ∀ (w' : World) (A' : Own), St w F w' (one A') → St w0 F0 w' (upd E i A') := by
  obtain ⟨F, h1, h2, h3, h4⟩ := H.change i hi
  refine ⟨F, St.in1 h1, fun size A n xs hr hlt => ⟨hr.1, fun hn ad e m => ?_⟩, h3, fun w' A' H' => ?_⟩
  · rcases h2 _ m with h | h
    · exact hr.2 hn ad e h
    · have := hlt ad e; omega
  · obtain ⟨F', a, b, c⟩ := H'.out 0 rfl
    exact h4 w' A' F' a b c
theorem St.frame2 {A B : Own} (H : St w0 F0 w E) (i j : Nat) (hij : i ≠ j) (hi : E i = some A) (hj : E j = some B) :
    ∃ F, St w F w (two A B) ∧ (∀ (size : Nat) (A : Option Addr) (n : Nat) (xs : List Value), RdF w F0 size A n xs → (∀ ad, A = some ad → ad.block < w0.heap.size) → RdF w F size A n xs) ∧
      (∀ k C, k ≠ i → k ≠ j → E k = some C → ∃ G, C.holds w G ∧ ∀ g ∈ G, g ∉ F) ∧ ∀ (w' : World) (A' B' : Own), St w F w' (two A' B') → St w0 F0 w' (upd (upd E i A') j B') := by
  obtain ⟨F, H1, h2, h3, h4⟩ := (H.join i j hij hi hj).frame1 (A := .sep A B) i (by simp [upd])
  have hne : j ≠ i := fun e => hij e.symm
  refine ⟨F, ((H1.part 0 1 (by omega) rfl rfl).env fun k => ?_), h2, fun k C hki hkj hC => h3 k C hki (by simp only [upd, del, if_neg hki, if_neg hkj]; exact hC), fun w' A' B' H' => ?_⟩
  · simp only [two, one, upd]; split <;> (try split) <;> rfl
  · have H2 := h4 w' (.sep A' B') ((H'.join 0 1 (by omega) rfl rfl).env fun k => by
      simp only [two, one, upd, del, Env.nil]
      by_cases h0 : k = 0
      · simp [h0]
      · by_cases h1 : k = 1
        · simp [h1]
        · simp [h0, h1])
    refine (H2.part (A := A') (B := B') i j hij (by simp [upd]) (by simp [upd, del, hne])).env fun k => ?_
    simp only [upd, del]
    by_cases hk : k = j
    · simp [hk]
    · by_cases hk' : k = i <;> simp [hk, hk']
theorem St.openEx {α : Type} {A : α → Own} (H : St w0 F0 w E) (i : Nat) (hi : E i = some (.ex A)) : ∃ a, St w0 F0 w (upd E i (A a)) := by
  obtain ⟨F, ⟨a, h⟩, -, -, h4⟩ := H.change i hi
  exact ⟨a, h4 w (A a) F h (Low.refl _ _) fun g hg => .inl hg⟩
theorem St.shutEx {α : Type} {A : α → Own} (a : α) (H : St w0 F0 w E) (i : Nat) (hi : E i = some (A a)) : St w0 F0 w (upd E i (.ex A)) := by
  obtain ⟨F, h, -, -, h4⟩ := H.change i hi
  exact h4 w (.ex A) F ⟨a, h⟩ (Low.refl _ _) fun g hg => .inl hg
theorem St.openFact {p : Prop} {A : Own} (H : St w0 F0 w E) (i : Nat) (hi : E i = some (.fact p A)) : p ∧ St w0 F0 w (upd E i A) := by
  obtain ⟨F, ⟨a, h⟩, -, -, h4⟩ := H.change i hi
  exact ⟨a, h4 w A F h (Low.refl _ _) fun g hg => .inl hg⟩
theorem St.shutFact {p : Prop} {A : Own} (a : p) (H : St w0 F0 w E) (i : Nat) (hi : E i = some A) : St w0 F0 w (upd E i (.fact p A)) := by
  obtain ⟨F, h, -, -, h4⟩ := H.change i hi
  exact h4 w (.fact p A) F ⟨a, h⟩ (Low.refl _ _) fun g hg => .inl hg
theorem St.nothing (H : St w0 F0 w E) (k : Nat) (hk : E k = none) : St w0 F0 w (upd E k .emp) := H.push k hk (Below.refl _ _) (A := .emp) rfl (by simp)
/-- pieces by their places in a list -/
def lay (L : List Own) : Env := fun i => L[i]?
theorem St.upd_mk {L : List Own} {k : Nat} {A : Own} (H : St w0 F0 w (upd (lay L) k A)) (h : k < L.length) : St w0 F0 w (lay (L.set k A)) :=
  H.env fun i => by
    simp only [lay, upd]
    by_cases hi : i = k
    · subst hi; simp [h]
    · rw [List.getElem?_set_ne (fun e => hi e.symm), if_neg hi]
theorem St.push_mk {L : List Own} {k : Nat} {A : Own} (H : St w0 F0 w (upd (lay L) k A)) (h : k = L.length) : St w0 F0 w (lay (L ++ [A])) :=
  H.env fun i => by
    subst h
    simp only [lay, upd]
    by_cases hi : i = L.length
    · subst hi; simp
    · rw [if_neg hi]
      rcases Nat.lt_or_ge i L.length with h1 | h1
      · rw [List.getElem?_append_left h1]
      · rw [List.getElem?_eq_none (by simp; omega), List.getElem?_eq_none h1]
theorem St.as1 {A : Own} (H : St w0 F0 w (one A)) : St w0 F0 w (lay [A]) := H.env fun i => by
  cases i with
  | zero => rfl
  | succ i => simp [lay, one, upd, Env.nil]
theorem St.as2 {A B : Own} (H : St w0 F0 w (two A B)) : St w0 F0 w (lay [A, B]) := H.env fun i => by
  match i with
  | 0 => rfl
  | 1 => rfl
  | i + 2 => simp [lay, two, upd, Env.nil]
theorem St.to1 {L : List Own} {A : Own} (H : St w0 F0 w (lay L)) (h : L[0]? = some A) : St w0 F0 w (one A) := H.sub fun k B hB => by
  by_cases hk : k = 0
  · subst hk; simp only [one, upd, if_true] at hB; rw [← hB]; exact h
  · simp [one, upd, hk, Env.nil] at hB
theorem St.to2 {L : List Own} {A B : Own} (H : St w0 F0 w (lay L)) (h : L[0]? = some A) (h' : L[1]? = some B) : St w0 F0 w (two A B) := H.sub fun k C hC => by
  match k with
  | 0 => rw [show two A B 0 = some A from rfl] at hC; rw [← hC]; exact h
  | 1 => rw [show two A B 1 = some B from rfl] at hC; rw [← hC]; exact h'
  | k + 2 => simp [two, upd, Env.nil] at hC
theorem St.start_lay (w : World) (F : List Nat) : St w F w (lay []) := (St.start w F).env fun i => by simp [lay, Env.nil]
theorem St.front {L : List Own} (n : Nat) (H : St w0 F0 w (lay L)) : St w0 F0 w (lay (L.take n)) := H.sub fun k A h => by
  simp only [lay, List.getElem?_take] at h ⊢
  split at h
  · exact h
  · cases h
theorem absorb_wp {P : Program} {c : Code} {Q : Exit → Act → World → Prop} {a : Act} (H : St w0 F0 w E) (h : ∀ w', St w0 F0 w' E → c.wp P Q a w') : c.wp P Q a w := h w H
theorem absorb_list {P : Program} {ops : Array Oper} {l : List Oper} {Q : Exit → Act → World → Prop} {a : Act} (H : St w0 F0 w E) (h : ∀ w', St w0 F0 w' E → wpList P ops Q l a w') : wpList P ops Q l a w := h w H
theorem absorb_calls {P : Program} {f : FuncId} {args : Array Value} {R : Ending → World → Prop} (H : St w0 F0 w E) (h : ∀ w', St w0 F0 w' E → Calls P f args w' R) : Calls P f args w R := h w H
/-- a value of all its cells goes into a block -/
theorem St.there {g : Nat} {T : TypeId} {cs : List Value} (H : St w0 F0 w E) (k : Nat) (hk : E k = some (.blk g T cs)) : w.there g 0 cs.length := fun j hj => by
  rw [Nat.zero_add]
  exact ⟨by rw [H.cell k hk (List.getElem?_eq_getElem hj)]; rfl, H.free k hk j⟩
theorem St.range {g : Nat} {T : TypeId} {cs : List Value} (H : St w0 F0 w E) (k : Nat) (hk : E k = some (.blk g T cs)) : w.rangeAt g 0 cs := fun j v hv => by
  rw [Nat.zero_add]; exact H.cell k hk hv
theorem setCells_heap (vs : List Value) : ∀ (w : World) (g o : Nat) (T : TypeId) (C : List Value), w.heap[g]? = some (.cells C.toArray T (0, 0)) → o + vs.length ≤ C.length →
    (w.setCells g o vs).heap[g]? = some (.cells (C.take o ++ vs ++ C.drop (o + vs.length)).toArray T (0, 0)) := by
  induction vs with
  | nil => intro w g o T C h hl; simpa [World.setCells] using h
  | cons v vs ih =>
    intro w g o T C h hl
    simp only [List.length_cons] at hl
    have h1 := heap_setCell_same w g o C.toArray T v h
    have h2 := ih (w.setCell ⟨g, o, none⟩ v) g (o + 1) T (C.set o v) (by simpa using h1) (by simp; omega)
    show ((w.setCell ⟨g, o, none⟩ v).setCells g (o + 1) vs).heap[g]? = _
    rw [h2]
    congr 3
    rw [List.take_add_one, List.take_set_of_le (by omega), List.getElem?_set_self (by omega), List.drop_set_of_lt (by omega)]
    simp [Nat.add_assoc, Nat.add_comm 1]
theorem setCells_low (vs : List Value) : ∀ (w : World) (g o : Nat), Low w [g] (w.setCells g o vs) := by
  induction vs with
  | nil => intro w g o; exact Low.refl _ _
  | cons v vs ih => intro w g o; exact (Low.setCell w ⟨g, o, none⟩ v).trans (ih _ g (o + 1)) (by simp)
theorem St.storeAll {g : Nat} {T : TypeId} {cs vs : List Value} (H : St w0 F0 w E) (k : Nat) (hk : E k = some (.blk g T cs)) (hl : vs.length = cs.length) : St w0 F0 (w.setCells g 0 vs) (upd E k (.blk g T vs)) := by
  obtain ⟨F, ⟨h, e⟩, -, -, hc⟩ := H.change k hk
  subst e
  refine hc _ _ [g] ⟨?_, rfl⟩ (setCells_low vs w g 0) (by simp)
  rw [setCells_heap vs w g 0 T cs h (by omega)]
  simp [hl]
end

section
variable {w0 w : World} {F0 : List Nat} {E : Env}
theorem St.setRow {g : Nat} {T : TypeId} {cs vs : List Value} (H : St w0 F0 w E) (k : Nat) (hk : E k = some (.blk g T cs)) : St w0 F0 (w.setRow g vs.toArray) (upd E k (.blk g T vs)) := by
  obtain ⟨F, ⟨h, e⟩, -, -, hc⟩ := H.change k hk
  subst e
  exact hc _ _ [g] ⟨setRow_heap w g _ _ T _ h, rfl⟩ ⟨rfl, rfl, rfl, by simp [World.setRow], fun i hi hn => setRow_other w g i _ (by simpa using hn)⟩ (by simp)

theorem wp_copy_st {P : Program} {o : Oper} {a : Act} {K : Act → World → Prop} {Q : Exit → Act → World → Prop} (d s : Operand) (dT sT : TypeId)
    (ho : o.op = .call { callee := .builtin .copy, args := #[d, s], argTypes := #[dT, sT] }) (elem : TypeId) (hu : P.underlying dT = some (.slice elem)) (hsz : (P.info? elem).map (·.size) = some 1)
    (dp sp : Option Addr) (dLen dCap sLen sCap : Nat) (hd : a.eval d = .slice dp dLen dCap) (hs : a.eval s = .slice sp sLen sCap)
    (H : St w0 F0 w E) (k g off : Nat) (T : TypeId) (cur : List Value) (hk : E k = some (.blk g T cur)) (cs : List Value) (hn : cs.length = Nat.min sLen dLen)
    (hpos : 0 < cs.length → dp = some ⟨g, off, none⟩ ∧ ∃ ad, sp = some ad ∧ ∀ j v, cs[j]? = some v → w.cell? (ad.add j) = some v)
    (hfit : off + cs.length ≤ cur.length) (h1 : ∀ v ∈ cs, v.oneCell' = true)
    (h : ∀ w', St w0 F0 w' (upd E k (.blk g T (splice cur off cs))) → K (a.put o.dst (.int .i64 (cs.length : Int))) w') : o.wp P a w K Q := by
  by_cases h0 : cs.length = 0
  · obtain rfl : cs = [] := List.eq_nil_of_length_eq_zero h0
    have hrun := run_copy_none (P := P) w dT sT o.type elem dp sp dLen dCap sLen sCap hu hsz (by simpa using hn.symm)
    unfold Oper.wp
    simp [execOp, ho, resolve, invoke, builtin, hd, hs, hrun, Result.andThen]
    have h2 := h w (by rw [show splice cur off [] = cur from by simp [splice], upd_id hk]; exact H)
    exact h2
  · obtain ⟨rfl, ad, rfl, hsrc⟩ := hpos (by omega)
    have hrun := run_copy_row (P := P) w dT sT o.type elem g off dLen dCap ad sLen sCap cur.toArray T cs hu hsz (H.blk k hk) hn hsrc (by simpa using hfit) h1
    unfold Oper.wp
    simp [execOp, ho, resolve, invoke, builtin, hd, hs, hrun, Result.andThen]
    have h2 := h _ (H.setRow (vs := splice cur off cs) k hk)
    rw [show splice cur off cs = cur.take off ++ (cs ++ cur.drop (off + cs.length)) from rfl] at h2

    exact h2
theorem wpList_copy_st {P : Program} {ops : Array Oper} {rest : List Oper} {o : Oper} {a : Act} {Q : Exit → Act → World → Prop} (hgd : o.guard = none) (d s : Operand) (dT sT : TypeId)
    (ho : o.op = .call { callee := .builtin .copy, args := #[d, s], argTypes := #[dT, sT] }) (elem : TypeId) (hu : P.underlying dT = some (.slice elem)) (hsz : (P.info? elem).map (·.size) = some 1)
    (dp sp : Option Addr) (dLen dCap sLen sCap : Nat) (hd : a.eval d = .slice dp dLen dCap) (hs : a.eval s = .slice sp sLen sCap)
    (H : St w0 F0 w E) (k g off : Nat) (T : TypeId) (cur : List Value) (hk : E k = some (.blk g T cur)) (cs : List Value) (hn : cs.length = Nat.min sLen dLen)
    (hpos : 0 < cs.length → dp = some ⟨g, off, none⟩ ∧ ∃ ad, sp = some ad ∧ ∀ j v, cs[j]? = some v → w.cell? (ad.add j) = some v)
    (hfit : off + cs.length ≤ cur.length) (h1 : ∀ v ∈ cs, v.oneCell' = true)
    (h : ∀ w', St w0 F0 w' (upd E k (.blk g T (splice cur off cs))) → wpList P ops Q rest (a.put o.dst (.int .i64 (cs.length : Int))) w') : wpList P ops Q (o :: rest) a w :=
  wpList_plain hgd fun K hK => wp_copy_st d s dT sT ho elem hu hsz dp sp dLen dCap sLen sCap hd hs H k g off T cur hk cs hn hpos hfit h1 fun w' h' => hK _ _ (h w' h')
theorem step_copy_st {P : Program} {ops : Array Oper} {o : Oper} {a : Act} {K : Act → World → Prop} {Q : Exit → Act → World → Prop} {X : Prop} (hgd : o.guard = none) (d s : Operand) (dT sT : TypeId)
    (ho : o.op = .call { callee := .builtin .copy, args := #[d, s], argTypes := #[dT, sT] }) (elem : TypeId) (hu : P.underlying dT = some (.slice elem)) (hsz : (P.info? elem).map (·.size) = some 1)
    (dp sp : Option Addr) (dLen dCap sLen sCap : Nat) (hd : a.eval d = .slice dp dLen dCap) (hs : a.eval s = .slice sp sLen sCap)
    (H : St w0 F0 w E) (k g off : Nat) (T : TypeId) (cur : List Value) (hk : E k = some (.blk g T cur)) (cs : List Value) (hn : cs.length = Nat.min sLen dLen)
    (hpos : 0 < cs.length → dp = some ⟨g, off, none⟩ ∧ ∃ ad, sp = some ad ∧ ∀ j v, cs[j]? = some v → w.cell? (ad.add j) = some v)
    (hfit : off + cs.length ≤ cur.length) (h1 : ∀ v ∈ cs, v.oneCell' = true)
    (h : ∀ w', St w0 F0 w' (upd E k (.blk g T (splice cur off cs))) → K (a.put o.dst (.int .i64 (cs.length : Int))) w') :
    if Region.wanted o (yielded ops a.tmps) = true then Oper.wp P o a w K Q else X := by
  rw [if_pos (by simp [Region.wanted, hgd])]
  exact wp_copy_st d s dT sT ho elem hu hsz dp sp dLen dCap sLen sCap hd hs H k g off T cur hk cs hn hpos hfit h1 h
end
theorem run_index_agg {P : Program} (ty e : TypeId) (len : Nat) (cs : Array Value) (k : Nat) (v : Value) (ht : P.underlying ty = some (.array len e)) (hs : (P.info? e).map (·.size) = some 1) (ha : ∀ w, (isAgg e).run P w = .ok false w) (hk : k < len) (hv : cs[k]? = some v) (w : World) :
    (Instr.index ty (.agg cs) (.int .i64 (k : Int))).run P w = .ok v w := by
  cases hi : P.info? e with
  | none => simp [hi] at hs
  | some i =>
    have h1 : i.size = 1 := by simpa [hi] using hs
    unfold Instr.index
    simp [asIntOf, run_underlying ht, hk, sizeOf, typeInfo, hi, h1, part, ha, hv]
end Go.Proofs.Ytcnphkmcgefjoaa

namespace Go.Proofs.Ytcnphkmcgefjoaa
open Go.RowKit
set_option linter.unusedVariables false

section
variable {α : Type} {f : α → List Value} {s : Nat}
theorem flat_length (hf : ∀ a, (f a).length = s) (l : List α) : (l.flatMap f).length = l.length * s := by
  induction l with
  | nil => simp
  | cons a l ih => rw [List.flatMap_cons, List.length_append, ih, hf, List.length_cons, Nat.add_mul]; omega
theorem flat_get (hf : ∀ a, (f a).length = s) (l : List α) (i j : Nat) (a : α) (hi : l[i]? = some a) (hj : j < s) : (l.flatMap f)[i * s + j]? = (f a)[j]? := by
  induction l generalizing i with
  | nil => simp at hi
  | cons b l ih =>
    rw [List.flatMap_cons]
    cases i with
    | zero =>
      simp at hi; subst hi
      rw [List.getElem?_append_left (by rw [hf]; omega)]; simp
    | succ i =>
      rw [List.getElem?_append_right (by rw [hf, Nat.add_mul]; omega), hf, show (i + 1) * s + j - s = i * s + j by rw [Nat.add_mul]; omega]
      exact ih i (by simpa using hi)
theorem flat_one {Q : Value → Prop} (h : ∀ a, ∀ u ∈ f a, Q u) (l : List α) : ∀ u ∈ l.flatMap f, Q u := by
  intro u hu
  obtain ⟨a, -, ha⟩ := List.mem_flatMap.1 hu
  exact h a u ha
theorem Rd.takeF {w : World} {A : Option Addr} {n k : Nat} {l : List α} (hf : ∀ a, (f a).length = s) (hs : 0 < s) (h : Rd w s A n (l.flatMap f)) (hk : k ≤ n) : Rd w s A k ((l.take k).flatMap f) := by
  have hl := h.1
  rw [flat_length hf] at hl
  have hln : l.length = n := Nat.eq_of_mul_eq_mul_right hs hl
  refine ⟨by rw [flat_length hf, List.length_take, hln, Nat.min_eq_left hk], fun hn => ?_⟩
  obtain ⟨ad, rfl, hb, hc⟩ := h.2 (by omega)
  refine ⟨ad, rfl, hb, fun j u hu => hc j u ?_⟩
  have hj : j < ((l.take k).flatMap f).length := (List.getElem?_eq_some_iff.1 hu).1
  rw [← List.take_append_drop k l, List.flatMap_append, List.getElem?_append_left hj]
  exact hu
end
/-- a row of the call's own, at its end -/
theorem St.ownRow {w0 w : World} {E : Env} {e : TypeId} {size n : Nat} {v : Value} {xs : List Value} (H : St w0 [] w E) (k : Nat) (hk : E k = some (.row e size v n xs)) : w.ownsRow w0.heap.size e size v n xs := by
  obtain ⟨F, ⟨h1, h2⟩, -, h4⟩ := H.out k hk
  refine ownsRow_base h1 fun g hg => ?_
  rcases h4 g (by rw [h2]; exact hg) with h | h
  · simp at h
  · exact h
theorem row_form {w : World} {e : TypeId} {size n : Nat} {v : Value} {xs : List Value} (h : w.ownsRow 0 e size v n xs) : ∃ A c, v = .slice A n c ∧ n ≤ c ∧ (0 < n → ∃ g, A = some ⟨g, 0, none⟩ ∧ g < w.heap.size) := by
  rcases h.2 with ⟨rfl, rfl⟩ | ⟨g, cap, cur, rfl, _, hg, hc, _⟩
  · exact ⟨_, _, rfl, by omega, fun h => by omega⟩
  · exact ⟨_, _, rfl, hc, fun _ => ⟨g, rfl, lt_of_heap hg⟩⟩
theorem rd_new0 (w : World) (us : List Value) (t : TypeId) (size : Nat) (h : us.length = size) : Rd (w.alloc (.cells us.toArray t)) size (some ⟨w.heap.size, 0, none⟩) 1 us :=
  ⟨by omega, fun _ => ⟨_, rfl, by simp, fun j u hu => by
    rw [Addr.add_mid, Nat.zero_add, World.cell?_alloc_at _ _ _ _ rfl]; simpa using hu⟩⟩
/-- some of the pieces, under other numbers -/
theorem St.pick {w0 w : World} {F0 : List Nat} {E E' : Env} (H : St w0 F0 w E) (f : Nat → Nat) (hf : ∀ i j, f i = f j → i = j) (h : ∀ k A, E' k = some A → E (f k) = some A) : St w0 F0 w E' := by
  obtain ⟨lo, Fs, h1, h2⟩ := H
  exact ⟨lo, fun k => Fs (f k), fun i A hA => h1 (f i) A (h i A hA), fun i j A B hij hA hB => h2 (f i) (f j) A B (fun e => hij (hf i j e)) (h i A hA) (h j B hB)⟩
/-- what a call has made, beside what there was -/
theorem St.also {w0 w w' : World} {F0 : List Nat} {L1 L2 : List Own} (H : St w0 F0 w (lay L1)) (HN : St w [] w' (lay L2)) : St w0 F0 w' (lay (L1 ++ L2)) := by
  obtain ⟨lo, Fs, h1, h2⟩ := H
  obtain ⟨lo', Gs, k1, k2⟩ := HN
  have look : ∀ i A, lay (L1 ++ L2) i = some A → (i < L1.length ∧ lay L1 i = some A) ∨ (L1.length ≤ i ∧ lay L2 (i - L1.length) = some A) := by
    intro i A hA
    simp only [lay] at hA ⊢
    rcases Nat.lt_or_ge i L1.length with h | h
    · rw [List.getElem?_append_left h] at hA; exact .inl ⟨h, hA⟩
    · rw [List.getElem?_append_right h] at hA; exact .inr ⟨h, hA⟩
  refine ⟨lo.trans lo' (by simp), fun i => if i < L1.length then Fs i else Gs (i - L1.length), fun i A hA => ?_, fun i j A B hij hA hB g hg => ?_⟩
  · rcases look i A hA with ⟨hi, h⟩ | ⟨hi, h⟩
    · simp only [if_pos hi]
      exact ⟨A.loc (h1 i A h).1 fun g hg => lo'.block g (A.old (h1 i A h).1 g hg) (by simp), (h1 i A h).2⟩
    · simp only [if_neg (Nat.not_lt.2 hi)]
      exact ⟨(k1 _ A h).1, fun g hg => .inr (by
        rcases (k1 _ A h).2 g hg with e | e
        · simp at e
        · exact Nat.le_trans lo.size e)⟩
  · rcases look i A hA with ⟨hi, h⟩ | ⟨hi, h⟩ <;> rcases look j B hB with ⟨hj, h'⟩ | ⟨hj, h'⟩
    · simp only [if_pos hi] at hg
      simp only [if_pos hj]
      exact h2 i j A B hij h h' g hg
    · simp only [if_pos hi] at hg
      simp only [if_neg (Nat.not_lt.2 hj)]
      intro m
      have := A.old (h1 i A h).1 g hg
      rcases (k1 _ B h').2 g m with e | e
      · simp at e
      · omega
    · simp only [if_neg (Nat.not_lt.2 hi)] at hg
      simp only [if_pos hj]
      intro m
      have := B.old (h1 j B h').1 g m
      rcases (k1 _ A h).2 g hg with e | e
      · simp at e
      · omega
    · simp only [if_neg (Nat.not_lt.2 hi)] at hg
      simp only [if_neg (Nat.not_lt.2 hj)]
      exact k2 _ _ A B (by omega) h h' g hg
theorem lay1_of {A B : Own} {L : List Own} (h : L = A :: B :: []) : ∀ k C, lay [A] k = some C → lay L k = some C := by
  subst h
  intro k C hC
  match k with
  | 0 => exact hC
  | k + 1 => simp [lay] at hC
end Go.Proofs.Ytcnphkmcgefjoaa

namespace Go.Proofs.Ytcnphkmcgefjoaa
open Go.ChangeShapes Go.WideShapes Go.ChangeAt Go.RowKit
set_option linter.unusedVariables false
set_option maxRecDepth 100000

/-- a sact as it lies in memory, and what its lists hold -/
structure SactR where
  z0 : Int
  z1 : Int
  z2 : Int
  A3 : Option Addr
  n3 : Nat
  c3 : Nat
  l3 : List UInt8
  b4 : Bool
instance : Inhabited SactR := ⟨⟨0, 0, 0, none, 0, 0, [], false⟩⟩
def SactR.cs (s : SactR) : List Value := [.int .i64 s.z0, .int .i64 s.z1, .int .i64 s.z2, .slice s.A3 s.n3 s.c3, .bool s.b4]
structure SactR.Ok (w : World) (s : SactR) : Prop where
  i0 : -9223372036854775808 ≤ s.z0 ∧ s.z0 ≤ 9223372036854775807
  i1 : -9223372036854775808 ≤ s.z1 ∧ s.z1 ≤ 9223372036854775807
  i2 : -9223372036854775808 ≤ s.z2 ∧ s.z2 ≤ 9223372036854775807
  r3 : Rd w 1 s.A3 s.n3 (s.l3.map vb)
  m3 : s.n3 ≤ 1048576
  q3 : s.n3 ≤ s.c3

theorem sact_cellsOf : Try.prog.cellsOf 67 = 5 := by kernel_rfl
theorem SactR.cs_length (s : SactR) : s.cs.length = 5 := rfl

theorem sact_of_trodU {H : Type} {enc : TypeId × Value → H} {W : World} {b : Nat} {sp : Nat → Bool} {hd : Bool} {fuel : Nat} {cs0 : List Value} {x : DataW H × List MemPlace}
    (hu : Rows.uptoBulk x.1 ≤ 1048576) (h : DataW.trod enc Try.prog W b sp hd fuel 67 cs0 = some x) : ∃ s : SactR, cs0 = s.cs ∧ s.Ok W := by
  obtain ⟨xs, k, hk, hxy, hlen, hxl, hf⟩ := DataW.trod_struct Try.underlying67 h
  rw [sact_cellsOf] at hlen
  subst hxy
  match cs0, hlen with
  | [c0, c1, c2, c3, c4], _ =>
    match xs, hxl with
    | [y0, y1, y2, y3, y4], _ =>
      have g0 := hf 0 _ rfl
      have g1 := hf 1 _ rfl
      have g2 := hf 2 _ rfl
      have g3 := hf 3 _ rfl
      have g4 := hf 4 _ rfl
      simp [List.drop, List.take, show Try.prog.cellsOf 22 = 1 by kernel_rfl, show Try.prog.cellsOf 4 = 1 by kernel_rfl, show Try.prog.cellsOf 3 = 1 by kernel_rfl] at g0 g1 g2 g3 g4
      rw [Rows.uptoBulk] at hu
      obtain ⟨Z0, e0, -, w0⟩ := DataW.trod_int Try.underlying3 g0
      simp only [List.cons.injEq, and_true] at e0
      subst e0
      obtain ⟨Z1, e1, -, w1⟩ := DataW.trod_int Try.underlying3 g1
      simp only [List.cons.injEq, and_true] at e1
      subst e1
      obtain ⟨Z2, e2, -, w2⟩ := DataW.trod_int Try.underlying3 g2
      simp only [List.cons.injEq, and_true] at e2
      subst e2
      have u3 := bulk_mem (ds := [y0, y1, y2, y3, y4].map (·.1)) (i := 3) (d := y3.1) rfl
      obtain ⟨A3, n3, c3, l3, rfl, r3, b3, q3⟩ := bytes_trodU (by omega) g3
      obtain ⟨v4, e4⟩ := bool_trodU g4
      simp only [List.cons.injEq, and_true] at e4
      subst e4
      exact ⟨⟨Z0, Z1, Z2, A3, n3, _, l3, v4⟩, rfl, ⟨i64_of w0, i64_of w1, i64_of w2, r3, b3, q3⟩⟩

theorem open_sactU {H : Type} {enc : TypeId × Value → H} {W : World} {d : DataW H} {p : List MemPlace} {v : Value} {b base : Nat} {sp : Nat → Bool} {hd : Bool} {r : Reach}
    (hv : Value.okWide Try.prog W r base 67 v) (h0 : DataW.Trod enc Try.prog W b sp hd 67 v d p) (hu : Rows.uptoBulk d ≤ 1048576) : ∃ s : SactR, v = .agg s.cs.toArray ∧ s.Ok W := by
  obtain ⟨cs, rfl, -⟩ := okWide_struct Try.underlying67 hv
  obtain ⟨fuel, h⟩ := h0
  obtain ⟨cs⟩ := cs
  simp only [Value.cells] at h
  obtain ⟨s, e, ok⟩ := sact_of_trodU hu h
  exact ⟨s, by rw [e], ok⟩

def sactsV (l : List SactR) : List Value := l.flatMap SactR.cs
theorem sactsV_length (l : List SactR) : (sactsV l).length = l.length * 5 := flat_length SactR.cs_length l
theorem sactsV_get (l : List SactR) (i j : Nat) (a : SactR) (hi : l[i]? = some a) (hj : j < 5) : (sactsV l)[i * 5 + j]? = a.cs[j]? := flat_get SactR.cs_length l i j a hi hj
theorem sact_range {w : World} {A : Option Addr} {n k : Nat} {l : List SactR} {x : SactR} (h : Rd w 5 A n (sactsV l)) (hx : l[k]? = some x) : ∃ p o, A = some ⟨p, o, none⟩ ∧ w.rangeAt p (o + k * 5) x.cs := by
  have hl := h.1
  rw [sactsV_length] at hl
  have hk : k < l.length := (List.getElem?_eq_some_iff.1 hx).1
  obtain ⟨p, o, rfl, -, hc⟩ := h.flat (by omega) (by omega)
  refine ⟨p, o, rfl, fun j v hv => ?_⟩
  have hj : j < x.cs.length := (List.getElem?_eq_some_iff.1 hv).1
  rw [SactR.cs_length] at hj
  rw [Nat.add_assoc]
  exact hc (k * 5 + j) v (by rw [sactsV_get l k j x hx hj]; exact hv)
theorem sact_cells {w : World} {A : Option Addr} {n k : Nat} {l : List SactR} {x : SactR} (h : Rd w 5 A n (sactsV l)) (hx : l[k]? = some x) : ∃ p o, A = some ⟨p, o, none⟩ ∧ w.cell? ⟨p, o + k * 5, none⟩ = some (.int .i64 x.z0) ∧ w.cell? ⟨p, o + k * 5 + 1, none⟩ = some (.int .i64 x.z1) ∧ w.cell? ⟨p, o + k * 5 + 2, none⟩ = some (.int .i64 x.z2) ∧ w.cell? ⟨p, o + k * 5 + 3, none⟩ = some (.slice x.A3 x.n3 x.c3) ∧ w.cell? ⟨p, o + k * 5 + 4, none⟩ = some (.bool x.b4) ∧ p < w.heap.size := by
  obtain ⟨p, o, rfl, hr⟩ := sact_range h hx
  have h0 := hr 0 _ rfl
  exact ⟨p, o, rfl, h0, hr 1 _ rfl, hr 2 _ rfl, hr 3 _ rfl, hr 4 _ rfl, World.block_lt_of_cell? w _ h0⟩
theorem sact_bulk {H : Type} {enc : TypeId × Value → H} {W : World} {b : Nat} {sp : Nat → Bool} {hd : Bool} {fuel : Nat} {cs0 : List Value} {x : DataW H × List MemPlace}
    (h : DataW.trod enc Try.prog W b sp hd fuel 67 cs0 = some x) : 1 ≤ Rows.uptoBulk x.1 := by
  obtain ⟨xs, k, hk, hxy, -⟩ := DataW.trod_struct Try.underlying67 h
  subst hxy
  simp only [Rows.uptoBulk]
  omega
theorem bulk_count {H : Type} (L : List (DataW H)) (h : ∀ d ∈ L, 1 ≤ Rows.uptoBulk d) : L.length ≤ Rows.uptoBulkAll L := by
  induction L with
  | nil => simp
  | cons x r ih =>
    rw [Rows.uptoBulkAll, List.length_cons]
    have h1 := h x (by simp)
    have h2 := ih (fun d hd => h d (by simp [hd]))
    omega
theorem open_sactsU {H : Type} {enc : TypeId × Value → H} {W : World} {d : DataW H} {p : List MemPlace} {a : Option Addr} {len cap : Nat} {b : Nat} {sp : Nat → Bool} {hd : Bool}
    (h : DataW.Trod enc Try.prog W b sp hd 56 (.slice a len cap) d p) (hu : Rows.uptoBulk d ≤ 1048576) : ∃ l : List SactR, Rd W 5 a len (sactsV l) ∧ len ≤ 1048576 ∧ ∀ s ∈ l, s.Ok W := by
  obtain ⟨fuel, hf⟩ := h
  rcases Go.Deep.open_slice Try.underlying56 hf with ⟨hcs, _⟩ | ⟨x, l, c, m, n, D, Pl, hcs, hb, hl, hm, hmm, hx, hel⟩
  · simp [Value.cells] at hcs
    obtain ⟨rfl, rfl, rfl⟩ := hcs
    exact ⟨[], Rd.none_, by omega, by simp⟩
  · simp [Value.cells] at hcs
    obtain ⟨rfl, rfl, rfl⟩ := hcs
    simp only [Prod.mk.injEq] at hx
    have hx1 := hx.1
    subst hx1
    have hlm : len ≤ m := by rw [hmm]; split <;> omega
    simp only [Rows.uptoBulk] at hu
    have hlen1 : len ≤ 1048576 := by
      have h := bulk_count ((List.range len).map D) (fun d hd => by
        obtain ⟨i, hi, rfl⟩ := List.mem_map.1 hd
        have hi' := List.mem_range.1 hi
        obtain ⟨cs', -, h2⟩ := hel i (by omega)
        exact sact_bulk h2)
      rw [List.length_map, List.length_range] at h
      omega
    have each : ∀ i, i < len → ∃ s : SactR, s.Ok W ∧ ∀ q, q < 5 → W.cell? (x.add (i * 5 + q)) = s.cs[q]? := by
      intro i hi
      obtain ⟨cs', h1, h2⟩ := hel i (by omega)
      rw [sact_cellsOf] at h1
      obtain ⟨s, rfl, ok⟩ := sact_of_trodU (Nat.le_trans (bulk_mem (ds := (List.range len).map D) (i := i) (d := D i) (by rw [List.getElem?_map, List.getElem?_range hi]; rfl)) (by omega)) h2
      refine ⟨s, ok, fun q hq => ?_⟩
      have := (World.cells?_some h1).2.2 q hq
      rwa [add_of_add] at this
    obtain ⟨f, hf'⟩ := Go.Deep.choose_lt each
    have hlen : ((List.range len).map f).length = len := by simp
    refine ⟨(List.range len).map f, ⟨by rw [sactsV_length, hlen], fun hn => ⟨x, rfl, ?_, fun i u hu => ?_⟩⟩, hlen1, ?_⟩
    · have h0 := (hf' 0 hn).2 0 (by omega)
      have := World.block_lt_of_cell? W _ (h0.trans rfl)
      rwa [block_of_add] at this
    · have hi : i < (sactsV ((List.range len).map f)).length := (List.getElem?_eq_some_iff.1 hu).1
      rw [sactsV_length, hlen] at hi
      have hq : i = (i / 5) * 5 + i % 5 := by omega
      have h7 : i / 5 < len := by omega
      have hg := sactsV_get ((List.range len).map f) (i / 5) (i % 5) (f (i / 5)) (by simp [h7]) (by omega)
      rw [← hq, hu] at hg
      rw [hq, (hf' (i / 5) h7).2 (i % 5) (by omega), ← hg]
    · intro s hs
      obtain ⟨i, hi, rfl⟩ := List.mem_map.1 hs
      exact (hf' i (List.mem_range.1 hi)).1

end Go.Proofs.Ytcnphkmcgefjoaa

/- Turning words, in plain numbers. -/
namespace Go.Proofs.Ytcnphkmcgefjoaa
/-- x turned left by n in a word of W bits. -/
def rotN (W x n : Nat) : Nat := x * 2 ^ n % 2 ^ W + x / 2 ^ (W - n)
/-- what the reference has gathered after i bits -/
def rotTo (W x n i : Nat) : Nat := if i ≤ W - n then (x % 2 ^ i) * 2 ^ n else (x % 2 ^ (W - n)) * 2 ^ n + (x / 2 ^ (W - n)) % 2 ^ (i - (W - n))

theorem mod_succ_bit (x i : Nat) : x % 2 ^ (i + 1) = x % 2 ^ i + x / 2 ^ i % 2 * 2 ^ i := by
  rw [Nat.pow_succ, Nat.mod_mul, Nat.mul_comm (2 ^ i)]

theorem rotTo_zero (W x n : Nat) : rotTo W x n 0 = 0 := by simp [rotTo, Nat.mod_one]

theorem rotTo_succ (W x n i : Nat) (hn : n < W) (hi : i < W) : rotTo W x n (i + 1) = rotTo W x n i + x / 2 ^ i % 2 * 2 ^ ((i + n) % W) := by
  unfold rotTo
  rcases Nat.lt_trichotomy i (W - n) with h | h | h
  · rw [if_pos (by omega), if_pos (by omega), mod_succ_bit, Nat.add_mul, Nat.mod_eq_of_lt (a := i + n) (by omega), Nat.pow_add, Nat.mul_assoc]
  · have e : (i + n) % W = 0 := by
      have : i + n = W := by omega
      rw [this, Nat.mod_self]
    have e1 : i + 1 - (W - n) = 1 := by omega
    rw [if_neg (by omega), if_pos (by omega), e, e1]
    subst h
    simp
  · have e : (i + n) % W = i - (W - n) := by
      rw [Nat.mod_eq_sub_mod (by omega), Nat.mod_eq_of_lt (by omega)]; omega
    have e1 : i + 1 - (W - n) = (i - (W - n)) + 1 := by omega
    rw [if_neg (by omega), if_neg (by omega), e, e1, mod_succ_bit, Nat.div_div_eq_div_mul, ← Nat.pow_add, Nat.add_assoc]
    have e2 : W - n + (i - (W - n)) = i := by omega
    rw [e2]

theorem rotTo_end (W x n : Nat) (hn : n < W) (hx : x < 2 ^ W) : rotTo W x n W = rotN W x n := by
  have h1 : x * 2 ^ n % 2 ^ W = (x % 2 ^ (W - n)) * 2 ^ n := by
    have e : 2 ^ W = 2 ^ (W - n) * 2 ^ n := by rw [← Nat.pow_add]; congr 1; omega
    rw [e, Nat.mul_mod_mul_right]
  unfold rotTo rotN
  by_cases h0 : n = 0
  · subst h0
    rw [if_pos (by omega)]
    simp [Nat.mod_eq_of_lt hx, Nat.div_eq_of_lt hx]
  · rw [if_neg (by omega), h1]
    congr 1
    have e : W - (W - n) = n := by omega
    rw [e, Nat.mod_eq_of_lt]
    have e2 : 2 ^ W = 2 ^ (W - n) * 2 ^ n := by rw [← Nat.pow_add]; congr 1; omega
    rw [Nat.div_lt_iff_lt_mul (Nat.two_pow_pos _), Nat.mul_comm, ← e2]
    exact hx

theorem rotTo_lt (W x n i : Nat) (hn : n < W) (hi : i ≤ W) : rotTo W x n i < 2 ^ W := by
  have e : 2 ^ W = 2 ^ (W - n) * 2 ^ n := by rw [← Nat.pow_add]; congr 1; omega
  unfold rotTo
  by_cases h : i ≤ W - n
  · rw [if_pos h, e]
    have h1 : x % 2 ^ i < 2 ^ i := Nat.mod_lt _ (Nat.two_pow_pos _)
    have h2 : 2 ^ i ≤ 2 ^ (W - n) := Nat.pow_le_pow_right (by omega) h
    exact Nat.mul_lt_mul_of_pos_right (by omega) (Nat.two_pow_pos _)
  · rw [if_neg h, e]
    have h1 : x % 2 ^ (W - n) < 2 ^ (W - n) := Nat.mod_lt _ (Nat.two_pow_pos _)
    have h2 : x / 2 ^ (W - n) % 2 ^ (i - (W - n)) < 2 ^ n := Nat.lt_of_lt_of_le (Nat.mod_lt _ (Nat.two_pow_pos _)) (Nat.pow_le_pow_right (by omega) (by omega))
    have h3 : (x % 2 ^ (W - n) + 1) * 2 ^ n ≤ 2 ^ (W - n) * 2 ^ n := Nat.mul_le_mul_right _ h1
    rw [Nat.add_mul, Nat.one_mul] at h3
    omega

/-- the two parts lie apart -/
theorem rotN_or (W x n : Nat) (hn : n < W) (hx : x < 2 ^ W) : (x * 2 ^ n % 2 ^ W) ||| (x / 2 ^ (W - n)) = rotN W x n := by
  have e2 : 2 ^ W = 2 ^ (W - n) * 2 ^ n := by rw [← Nat.pow_add]; congr 1; omega
  have h1 : x * 2 ^ n % 2 ^ W = 2 ^ n * (x % 2 ^ (W - n)) := by
    rw [e2, Nat.mul_mod_mul_right, Nat.mul_comm]
  have h2 : x / 2 ^ (W - n) < 2 ^ n := by
    rw [Nat.div_lt_iff_lt_mul (Nat.two_pow_pos _), Nat.mul_comm, ← e2]
    exact hx
  unfold rotN
  rw [h1, Nat.two_pow_add_eq_or_of_lt h2]
theorem rotN_lt (W x n : Nat) (hn : n < W) (hx : x < 2 ^ W) : rotN W x n < 2 ^ W := by
  rw [← rotTo_end W x n hn hx]; exact rotTo_lt W x n W hn (Nat.le_refl _)
end Go.Proofs.Ytcnphkmcgefjoaa

/- Words laid into bytes and taken out of them, in plain numbers. -/
namespace Go.Proofs.Ytcnphkmcgefjoaa
/-- a word's n bytes, the lowest first -/
def leL (n x : Nat) : List UInt8 := (List.range n).map fun i => UInt8.ofNat (x / 256 ^ i)
def beL (n x : Nat) : List UInt8 := (leL n x).reverse
theorem leL_length (n x : Nat) : (leL n x).length = n := by simp [leL]
theorem beL_length (n x : Nat) : (beL n x).length = n := by simp [beL, leL]
theorem leL_succ (n x : Nat) : leL (n + 1) x = leL n x ++ [UInt8.ofNat (x / 256 ^ n)] := by simp [leL, List.range_succ]
theorem leL_get {n x i : Nat} (h : i < n) : (leL n x)[i]? = some (UInt8.ofNat (x / 256 ^ i)) := by simp [leL, h]
theorem beL_get {n x i : Nat} (h : i < n) : (beL n x)[i]? = some (UInt8.ofNat (x / 256 ^ (n - 1 - i))) := by
  unfold beL
  rw [List.getElem?_reverse (by rw [leL_length]; exact h), leL_length, leL_get (by omega)]
/-- the byte at a place, 0 where there is none -/
def byteAt (l : List UInt8) (at' : Int) : Nat := if 0 ≤ at' ∧ at' < l.length then (l.getD at'.toNat 0).toNat else 0
theorem byteAt_lt (l : List UInt8) (a : Int) : byteAt l a < 256 := by
  unfold byteAt; split
  · exact UInt8.toNat_lt _
  · omega
/-- the first n bytes from a place on, the highest first -/
def beTo (l : List UInt8) (a : Int) : Nat → Nat
  | 0 => 0
  | k + 1 => 256 * beTo l a k + byteAt l (a + k)
/-- the lowest first -/
def leTo (l : List UInt8) (a : Int) : Nat → Nat
  | 0 => 0
  | k + 1 => leTo l a k + byteAt l (a + k) * 256 ^ k
theorem beTo_lt (l : List UInt8) (a : Int) (k : Nat) : beTo l a k < 256 ^ k := by
  induction k with
  | zero => simp [beTo]
  | succ k ih => have := byteAt_lt l (a + k); rw [Nat.pow_succ]; unfold beTo; omega
theorem leTo_lt (l : List UInt8) (a : Int) (k : Nat) : leTo l a k < 256 ^ k := by
  induction k with
  | zero => simp [leTo]
  | succ k ih =>
    have := byteAt_lt l (a + k)
    unfold leTo
    rw [Nat.pow_succ]
    have h : (byteAt l (a + k) + 1) * 256 ^ k ≤ 256 * 256 ^ k := Nat.mul_le_mul_right _ this
    rw [Nat.add_mul, Nat.one_mul] at h
    omega
theorem byteAt_out (l : List UInt8) (a : Int) (h : a < 0 ∨ (l.length : Int) ≤ a) : byteAt l a = 0 := by
  unfold byteAt; rw [if_neg]; omega
theorem beTo_out (l : List UInt8) (a : Int) (n : Nat) (h : a + n ≤ 0 ∨ (l.length : Int) ≤ a) (k : Nat) (hk : k ≤ n) : beTo l a k = 0 := by
  induction k with
  | zero => rfl
  | succ k ih => unfold beTo; rw [ih (by omega), byteAt_out l _ (by omega)]
theorem leTo_out (l : List UInt8) (a : Int) (n : Nat) (h : a + n ≤ 0 ∨ (l.length : Int) ≤ a) (k : Nat) (hk : k ≤ n) : leTo l a k = 0 := by
  induction k with
  | zero => rfl
  | succ k ih => unfold leTo; rw [ih (by omega), byteAt_out l _ (by omega)]; omega
/-- the reference's way from the highest of n down: what it has gathered when i is still to come -/
def leDown (l : List UInt8) (a : Int) : Nat → Nat → Nat
  | _, 0 => 0
  | n, d + 1 => 256 * leDown l a n d + byteAt l (a + (n - 1 - d : Nat))
theorem leDown_eq (l : List UInt8) (a : Int) (n d : Nat) (h : d ≤ n) : leTo l a n = leTo l a (n - d) + leDown l a n d * 256 ^ (n - d) := by
  induction d with
  | zero => simp [leDown]
  | succ d ih =>
    rw [ih (by omega)]
    have e : n - d = (n - (d + 1)) + 1 := by omega
    rw [e]
    have e2 : n - 1 - d = n - (d + 1) := by omega
    rw [leDown, leTo, e2, Nat.add_mul, Nat.pow_succ, Nat.mul_comm (256 ^ (n - (d + 1))) 256, ← Nat.mul_assoc, Nat.mul_comm (leDown l a n d) 256]
    omega
theorem leDown_all (l : List UInt8) (a : Int) (n : Nat) : leDown l a n n = leTo l a n := by
  have := leDown_eq l a n n (Nat.le_refl _)
  rw [Nat.sub_self] at this
  simp [leTo] at this
  omega
theorem leDown_lt (l : List UInt8) (a : Int) (n d : Nat) : leDown l a n d < 256 ^ d := by
  induction d with
  | zero => simp [leDown]
  | succ d ih => have := byteAt_lt l (a + (n - 1 - d : Nat)); rw [Nat.pow_succ]; unfold leDown; omega
end Go.Proofs.Ytcnphkmcgefjoaa

namespace Go.Proofs.Ytcnphkmcgefjoaa
open Go.RowKit
set_option linter.unusedVariables false

section
variable {α : Type} (B : Nat) (c : List α → List UInt8 → List α) (h0 : List α)

/-- the words behind k blocks -/
def hTo (m : List UInt8) : Nat → List α
  | 0 => h0
  | k + 1 => c (hTo m k) ((m.drop (B * k)).take B)

def hAll (m : List UInt8) : List α := hTo B c h0 m (m.length / B)

def restOf (m : List UInt8) : List UInt8 := m.drop (B * (m.length / B))

def waitOf (m : List UInt8) : List UInt8 := restOf B m ++ List.replicate (B - m.length % B) 0

variable {B c h0}

theorem hTo_append (m p : List UInt8) : ∀ k, B * k ≤ m.length → hTo B c h0 (m ++ p) k = hTo B c h0 m k := by
  intro k
  induction k with
  | zero => intro _; rfl
  | succ k ih =>
    intro h
    have hk : B * k + B ≤ m.length := by rw [← Nat.mul_succ]; exact h
    show c (hTo B c h0 (m ++ p) k) _ = c (hTo B c h0 m k) _
    rw [ih (by omega), List.drop_append_of_le_length (by omega), List.take_append_of_le_length (by rw [List.length_drop]; omega)]

theorem rest_length (hB : 0 < B) (m : List UInt8) : (restOf B m).length = m.length % B := by
  unfold restOf
  rw [List.length_drop]
  have := Nat.div_add_mod m.length B
  omega

theorem wait_length (hB : 0 < B) (m : List UInt8) : (waitOf B m).length = B := by
  unfold waitOf
  rw [List.length_append, rest_length hB, List.length_replicate]
  have := Nat.mod_lt m.length hB
  omega

theorem div_stay {n k : Nat} (h : n % B + k < B) : (n + k) / B = n / B ∧ (n + k) % B = n % B + k := by
  have h1 := Nat.div_add_mod n B
  have e : n + k = B * (n / B) + (n % B + k) := by omega
  have hB : 0 < B := by omega
  constructor
  · rw [e, Nat.mul_add_div hB, Nat.div_eq_of_lt h, Nat.add_zero]
  · rw [e, Nat.mul_add_mod, Nat.mod_eq_of_lt h]

theorem div_next {n k : Nat} (hB : 0 < B) (h : n % B + k = B) : (n + k) / B = n / B + 1 ∧ (n + k) % B = 0 := by
  have h1 := Nat.div_add_mod n B
  have e : n + k = B * (n / B + 1) := by rw [Nat.mul_add, Nat.mul_one]; omega
  constructor
  · rw [e, Nat.mul_div_cancel_left _ hB]
  · rw [e, Nat.mul_mod_right]

/-- a few bytes more, and the block is not full -/
theorem hAll_stay {m x : List UInt8} (h : m.length % B + x.length < B) : hAll B c h0 (m ++ x) = hAll B c h0 m := by
  unfold hAll
  rw [List.length_append, (div_stay h).1]
  have := Nat.div_add_mod m.length B
  exact hTo_append m x _ (by omega)

theorem rest_stay {m x : List UInt8} (h : m.length % B + x.length < B) : restOf B (m ++ x) = restOf B m ++ x := by
  unfold restOf
  rw [List.length_append, (div_stay h).1]
  have := Nat.div_add_mod m.length B
  rw [List.drop_append_of_le_length (by omega)]

/-- the bytes behind the place where a list is put -/
def putAt (b : List UInt8) (k : Nat) (x : List UInt8) : List UInt8 := b.take k ++ x ++ b.drop (k + x.length)

theorem wait_put {m x : List UInt8} (hB : 0 < B) (h : m.length % B + x.length ≤ B) : putAt (waitOf B m) (m.length % B) x = restOf B m ++ x ++ List.replicate (B - (m.length % B + x.length)) 0 := by
  unfold putAt waitOf
  rw [List.take_left' (rest_length hB m), List.drop_append, rest_length hB, List.drop_eq_nil_of_le (by rw [rest_length hB]; omega), List.nil_append, List.drop_replicate]
  congr 2
  omega

theorem wait_stay {m x : List UInt8} (h : m.length % B + x.length < B) : putAt (waitOf B m) (m.length % B) x = waitOf B (m ++ x) := by
  rw [wait_put (by omega) (by omega)]
  have e : waitOf B (m ++ x) = restOf B (m ++ x) ++ List.replicate (B - (m ++ x).length % B) 0 := rfl
  rw [e, rest_stay h, List.length_append, (div_stay h).2]

/-- a few bytes more, and the block is full -/
theorem wait_full {m x : List UInt8} (hB : 0 < B) (h : m.length % B + x.length = B) : putAt (waitOf B m) (m.length % B) x = restOf B m ++ x := by
  rw [wait_put hB (by omega), h, Nat.sub_self, List.replicate_zero, List.append_nil]

theorem hAll_next {m x : List UInt8} (hB : 0 < B) (h : m.length % B + x.length = B) : hAll B c h0 (m ++ x) = c (hAll B c h0 m) (restOf B m ++ x) := by
  unfold hAll
  rw [List.length_append, (div_next hB h).1]
  have h1 := Nat.div_add_mod m.length B
  show c (hTo B c h0 (m ++ x) _) _ = _
  rw [hTo_append m x _ (by omega)]
  congr 1
  unfold restOf
  rw [List.drop_append_of_le_length (by omega), List.take_of_length_le]
  rw [List.length_append, List.length_drop]
  omega

theorem rest_next {m x : List UInt8} (hB : 0 < B) (h : m.length % B + x.length = B) : restOf B (m ++ x) = [] := by
  apply List.eq_nil_of_length_eq_zero
  rw [rest_length hB, List.length_append, (div_next hB h).2]

theorem wait_next {m x : List UInt8} (hB : 0 < B) (h : m.length % B + x.length = B) : waitOf B (m ++ x) = List.replicate B 0 := by
  unfold waitOf
  rw [rest_next hB h, List.length_append, (div_next hB h).2]
  rfl

theorem hAll_nil : hAll B c h0 [] = h0 := by unfold hAll; rw [List.length_nil, Nat.zero_div]; rfl

theorem wait_nil : waitOf B [] = List.replicate B 0 := by unfold waitOf restOf; simp

theorem hTo_length (hc : ∀ h b, (c h b).length = h.length) (m : List UInt8) : ∀ k, (hTo B c h0 m k).length = h0.length := by
  intro k
  induction k with
  | zero => rfl
  | succ k ih => exact (hc _ _).trans ih

theorem hAll_length (hc : ∀ h b, (c h b).length = h.length) (m : List UInt8) : (hAll B c h0 m).length = h0.length := hTo_length hc m _

end
end Go.Proofs.Ytcnphkmcgefjoaa

namespace Go.Proofs.Ytcnphkmcgefjoaa
open Go.RowKit
set_option linter.unusedVariables false

def ror32 (x : UInt32) (n : Nat) : UInt32 := UInt32.ofNat (rotN 32 x.toNat (32 - n))
def at32 (l : List UInt32) (k : Nat) : UInt32 := l.getD k 0
def kTab2 : List UInt32 := [
    0x428a2f98, 0x71374491, 0xb5c0fbcf, 0xe9b5dba5, 0x3956c25b, 0x59f111f1, 0x923f82a4, 0xab1c5ed5,
    0xd807aa98, 0x12835b01, 0x243185be, 0x550c7dc3, 0x72be5d74, 0x80deb1fe, 0x9bdc06a7, 0xc19bf174,
    0xe49b69c1, 0xefbe4786, 0x0fc19dc6, 0x240ca1cc, 0x2de92c6f, 0x4a7484aa, 0x5cb0a9dc, 0x76f988da,
    0x983e5152, 0xa831c66d, 0xb00327c8, 0xbf597fc7, 0xc6e00bf3, 0xd5a79147, 0x06ca6351, 0x14292967,
    0x27b70a85, 0x2e1b2138, 0x4d2c6dfc, 0x53380d13, 0x650a7354, 0x766a0abb, 0x81c2c92e, 0x92722c85,
    0xa2bfe8a1, 0xa81a664b, 0xc24b8b70, 0xc76c51a3, 0xd192e819, 0xd6990624, 0xf40e3585, 0x106aa070,
    0x19a4c116, 0x1e376c08, 0x2748774c, 0x34b0bcb5, 0x391c0cb3, 0x4ed8aa4a, 0x5b9cca4f, 0x682e6ff3,
    0x748f82ee, 0x78a5636f, 0x84c87814, 0x8cc70208, 0x90befffa, 0xa4506ceb, 0xbef9a3f7, 0xc67178f2]
def sg0 (x : UInt32) : UInt32 := ror32 x 7 ^^^ ror32 x 18 ^^^ (x >>> 3)
def sg1 (x : UInt32) : UInt32 := ror32 x 17 ^^^ ror32 x 19 ^^^ (x >>> 10)
def wNext2 (w : List UInt32) (t : Nat) : UInt32 := sg1 (at32 w (t - 2)) + at32 w (t - 7) + sg0 (at32 w (t - 15)) + at32 w (t - 16)
def wTo2 (b : List UInt8) : Nat → List UInt32
  | 0 => List.replicate 64 0
  | t + 1 => (wTo2 b t).set t (if t < 16 then UInt32.ofNat (beTo b (4 * t : Nat) 4) else wNext2 (wTo2 b t) t)
structure R8 where
  a : UInt32
  b : UInt32
  c : UInt32
  d : UInt32
  e : UInt32
  f : UInt32
  g : UInt32
  h : UInt32
def pOf2 (k w : UInt32) (x : R8) : UInt32 := x.h + (ror32 x.e 6 ^^^ ror32 x.e 11 ^^^ ror32 x.e 25) + ((x.e &&& x.f) ^^^ (~~~x.e &&& x.g)) + k + w
def qOf2 (x : R8) : UInt32 := (ror32 x.a 2 ^^^ ror32 x.a 13 ^^^ ror32 x.a 22) + ((x.a &&& x.b) ^^^ (x.a &&& x.c) ^^^ (x.b &&& x.c))
def rnd2 (k w : UInt32) (x : R8) : R8 := ⟨pOf2 k w x + qOf2 x, x.a, x.b, x.c, x.d + pOf2 k w x, x.e, x.f, x.g⟩
def rTo2 (w : List UInt32) (x : R8) : Nat → R8
  | 0 => x
  | t + 1 => rnd2 (at32 kTab2 t) (at32 w t) (rTo2 w x t)
def R8.list (x : R8) : List UInt32 := [x.a, x.b, x.c, x.d, x.e, x.f, x.g, x.h]
def R8.of (l : List UInt32) : R8 := ⟨at32 l 0, at32 l 1, at32 l 2, at32 l 3, at32 l 4, at32 l 5, at32 l 6, at32 l 7⟩
def comp2 (h : List UInt32) (b : List UInt8) : List UInt32 := (List.range 8).map fun i => at32 h i + at32 (rTo2 (wTo2 b 64) (R8.of h) 64).list i
def hBeg2 : List UInt32 := [0x6a09e667, 0xbb67ae85, 0x3c6ef372, 0xa54ff53a, 0x510e527f, 0x9b05688c, 0x1f83d9ab, 0x5be0cd19]

theorem comp2_length (h : List UInt32) (b : List UInt8) : (comp2 h b).length = 8 := by unfold comp2; rw [List.length_map, List.length_range]

theorem wTo2_length (b : List UInt8) (t : Nat) : (wTo2 b t).length = 64 := by
  induction t with
  | zero => exact List.length_replicate ..
  | succ t ih => unfold wTo2; rw [List.length_set]; exact ih

theorem kTab2_length : kTab2.length = 64 := rfl

def u32v (x : UInt32) : Value := .int .u32 (x.toNat : Int)

theorem u32_get {l : List UInt32} {k : Nat} (h : k < l.length) : (l.map u32v)[k]? = some (.int .u32 ((at32 l k).toNat : Int)) := by
  rw [List.getElem?_map, List.getElem?_eq_getElem h]; simp [u32v, h, at32]

theorem u32_set (l : List UInt32) (k : Nat) (x : UInt32) : (l.map u32v).set k (u32v x) = (l.set k x).map u32v := by simp [List.map_set]

theorem u32_one (l : List UInt32) : ∀ v ∈ l.map u32v, v.oneCell' = true := by
  intro v hv
  obtain ⟨x, -, rfl⟩ := List.mem_map.1 hv
  rfl

theorem xor32 (x y : UInt32) : bits .xor .u32 (x.toNat : Int) (y.toNat : Int) = ((x ^^^ y).toNat : Int) := by
  rw [u32_xor_nat _ _ x.toNat_lt y.toNat_lt, UInt32.toNat_xor]

theorem and32 (x y : UInt32) : bits .and .u32 (x.toNat : Int) (y.toNat : Int) = ((x &&& y).toNat : Int) := by
  rw [u32_and_nat _ _ x.toNat_lt y.toNat_lt, UInt32.toNat_and]

theorem or32 (x y : UInt32) : bits .or .u32 (x.toNat : Int) (y.toNat : Int) = ((x ||| y).toNat : Int) := by
  rw [u32_or_nat _ _ x.toNat_lt y.toNat_lt, UInt32.toNat_or]

theorem not32 (x : UInt32) : bits .xor .u32 (if IntKind.u32.signed = true then -1 else IntKind.u32.max) (x.toNat : Int) = ((~~~x).toNat : Int) := by
  rw [show (if IntKind.u32.signed = true then -1 else IntKind.u32.max) = (((-1 : UInt32).toNat : Nat) : Int) from by decide, xor32, UInt32.neg_one_xor]

theorem add32 (x y : UInt32) : ((x.toNat : Int) + (y.toNat : Int)) % 4294967296 = ((x + y).toNat : Int) := by
  rw [UInt32.toNat_add]; omega

theorem shr32 (x : UInt32) (n : Nat) (hn : n < 32) : (x.toNat : Int) / 2 ^ n = ((x >>> UInt32.ofNat n).toNat : Int) := by
  rw [UInt32.toNat_shiftRight, UInt32.toNat_ofNat', Nat.mod_eq_of_lt (a := n) (by omega), Nat.mod_eq_of_lt hn, Nat.shiftRight_eq_div_pow]
  rw [Int.natCast_ediv, Int.natCast_pow]
  rfl

theorem ror32_toNat (x : UInt32) (n : Nat) (h : n < 32) (h1 : 1 ≤ n) : (ror32 x n).toNat = rotN 32 x.toNat (32 - n) := by
  unfold ror32
  rw [UInt32.toNat_ofNat']
  exact Nat.mod_eq_of_lt (rotN_lt 32 x.toNat (32 - n) (by omega) x.toNat_lt)

end Go.Proofs.Ytcnphkmcgefjoaa

namespace Go.Proofs.Ytcnphkmcgefjoaa
open Go.RowKit
set_option linter.unusedVariables false

theorem ret_int {k : IntKind} {a b : Int} (h : a = b) : Ending.returned (.int k a) = .returned (.int k b) := by rw [h]
theorem rot_bits_32 (x m : Nat) (hm : m < 32) (hx : x < 2 ^ 32) : bits .or .u32 ((x : Int) * 2 ^ m % 4294967296) ((x : Int) / 2 ^ (32 - m)) = ((rotN 32 x m : Nat) : Int) := by
  have e1 : (x : Int) * 2 ^ m % 4294967296 = ((x * 2 ^ m % 2 ^ 32 : Nat) : Int) := by
    rw [Int.natCast_emod, Int.natCast_mul, Int.natCast_pow, show ((2 ^ 32 : Nat) : Int) = 4294967296 from rfl]; rfl
  have e2 : (x : Int) / 2 ^ (32 - m) = ((x / 2 ^ (32 - m) : Nat) : Int) := by
    rw [Int.natCast_ediv, Int.natCast_pow]; rfl
  rw [e1, e2, u32_or_nat _ _ (Nat.mod_lt _ (by decide)) (Nat.lt_of_le_of_lt (Nat.div_le_self _ _) (by omega)), rotN_or 32 x m hm hx]
theorem rot_bits_64 (x m : Nat) (hm : m < 64) (hx : x < 2 ^ 64) : bits .or .u64 ((x : Int) * 2 ^ m % 18446744073709551616) ((x : Int) / 2 ^ (64 - m)) = ((rotN 64 x m : Nat) : Int) := by
  have e1 : (x : Int) * 2 ^ m % 18446744073709551616 = ((x * 2 ^ m % 2 ^ 64 : Nat) : Int) := by
    rw [Int.natCast_emod, Int.natCast_mul, Int.natCast_pow, show ((2 ^ 64 : Nat) : Int) = 18446744073709551616 from rfl]; rfl
  have e2 : (x : Int) / 2 ^ (64 - m) = ((x / 2 ^ (64 - m) : Nat) : Int) := by
    rw [Int.natCast_ediv, Int.natCast_pow]; rfl
  rw [e1, e2, u64_or_nat _ _ (Nat.mod_lt _ (by decide)) (Nat.lt_of_le_of_lt (Nat.div_le_self _ _) (by omega)), rotN_or 64 x m hm hx]
theorem tmod_lo (W : Int) (hW : W = 32 ∨ W = 64) (n : Int) (h : n.tmod W < 0) : wrap64 (n.tmod W + W) = ((n % W).toNat : Int) := by
  have e := Int.tmod_eq_emod (a := n) (b := W)
  unfold wrap64
  rcases hW with rfl | rfl
  · rw [show Int.natAbs 32 = 32 from rfl] at e; split at e <;> omega
  · rw [show Int.natAbs 64 = 64 from rfl] at e; split at e <;> omega
theorem tmod_hi (W : Int) (hW : W = 32 ∨ W = 64) (n : Int) (h : ¬ n.tmod W < 0) : n.tmod W = ((n % W).toNat : Int) := by
  have e := Int.tmod_eq_emod (a := n) (b := W)
  rcases hW with rfl | rfl
  · rw [show Int.natAbs 32 = 32 from rfl] at e; split at e <;> omega
  · rw [show Int.natAbs 64 = 64 from rfl] at e; split at e <;> omega

theorem width_u32 (w : World) : Calls Try.prog 73 #[] w fun e w' => e = .returned (.int .i64 32) ∧ w = w' := by
  go_enter Try.func73, Try.ntmps73
  go_wp2
  go_ret
  exact ⟨rfl, rfl⟩

set_option maxHeartbeats 400000 in
theorem turn_u32 (x : Nat) (n : Int) (w : World) (hx : x < 2 ^ 32) :
    Calls Try.prog 75 #[.int .u32 (x : Int), .int .i64 n] w fun e w' => e = .returned (.int .u32 (rotN 32 x (n % 32).toNat : Nat)) ∧ ∃ q, w' = w.drewN q := by
  obtain ⟨m, hm⟩ : ∃ m : Nat, m = (n % 32).toNat := ⟨_, rfl⟩
  rw [← hm]
  have hmW : m < 32 := by omega
  by_cases hneg : n.tmod 32 < 0
  · have he : wrap64 (n.tmod 32 + 32) = (m : Int) := by rw [hm]; exact tmod_lo 32 (by omega) n hneg
    clear hm
    go_enter Try.func75, Try.ntmps75
    go_wp2_with (go_at_call 73; refine (width_u32 _).mono ?_; rintro e w1 ⟨rfl, rfl⟩)
    go_quiet (fail)
    go_wp2
    go_ret
    exact ⟨ret_int (rot_bits_32 x m hmW hx), nq, rfl⟩
  · have he : n.tmod 32 = (m : Int) := by rw [hm]; exact tmod_hi 32 (by omega) n hneg
    clear hm
    go_enter Try.func75, Try.ntmps75
    go_wp2_with (go_at_call 73; refine (width_u32 _).mono ?_; rintro e w1 ⟨rfl, rfl⟩)
    go_quiet (fail)
    go_wp2
    go_ret
    exact ⟨ret_int (rot_bits_32 x m hmW hx), nq, rfl⟩

theorem width_u64 (w : World) : Calls Try.prog 62 #[] w fun e w' => e = .returned (.int .i64 64) ∧ w = w' := by
  go_enter Try.func62, Try.ntmps62
  go_wp2
  go_ret
  exact ⟨rfl, rfl⟩

end Go.Proofs.Ytcnphkmcgefjoaa

namespace Go.Proofs.Ytcnphkmcgefjoaa
open Go.RowKit
set_option linter.unusedVariables false
set_option maxRecDepth 100000

theorem right_any (x : UInt32) (n : Nat) (h1 : 1 ≤ n) (h2 : n < 32) (N : Int) (hN : N = n) (w : World) :
    Calls Try.prog 70 #[.int .u32 (x.toNat : Int), .int .i64 N] w fun e w' => e = .returned (.int .u32 ((ror32 x n).toNat : Int)) ∧ ∃ q, w' = w.drewN q := by
  subst hN
  have hc := turn_u32 x.toNat (32 - (n : Int)) w x.toNat_lt
  rw [show ((32 - (n : Int)) % 32).toNat = 32 - n by omega, ← ror32_toNat x n h2 h1] at hc
  have HC := Lib.hid hc
  clear hc
  go_enter Try.func70, Try.ntmps70
  go_wp2_with fail
  refine HC.out.mono ?_
  rintro e w1 ⟨rfl, q, rfl⟩
  go_wp2
  go_ret
  exact ⟨rfl, q, rfl⟩

theorem right_q (x : UInt32) (n : Nat) (h1 : 1 ≤ n) (h2 : n < 32) (N : Int) (hN : N = n) (w : World) (q : Nat) :
    Calls Try.prog 70 #[.int .u32 (x.toNat : Int), .int .i64 N] (w.drewN q) fun e w' => e = .returned (.int .u32 ((ror32 x n).toNat : Int)) ∧ ∃ m, w' = w.drewN m :=
  (right_any x n h1 h2 N hN (w.drewN q)).mono fun e w' h => ⟨h.1, by obtain ⟨m, rfl⟩ := h.2; exact ⟨q + m, by rw [World.drewN_drewN]⟩⟩

theorem rq_2 (x : UInt32) (w : World) (q : Nat) : Calls Try.prog 70 #[.int .u32 (x.toNat : Int), .int .i64 2] (w.drewN q) fun e w' => e = .returned (.int .u32 ((ror32 x 2).toNat : Int)) ∧ ∃ m, w' = w.drewN m :=
  right_q x 2 (by omega) (by omega) 2 rfl w q
theorem rq_6 (x : UInt32) (w : World) (q : Nat) : Calls Try.prog 70 #[.int .u32 (x.toNat : Int), .int .i64 6] (w.drewN q) fun e w' => e = .returned (.int .u32 ((ror32 x 6).toNat : Int)) ∧ ∃ m, w' = w.drewN m :=
  right_q x 6 (by omega) (by omega) 6 rfl w q
theorem rq_7 (x : UInt32) (w : World) (q : Nat) : Calls Try.prog 70 #[.int .u32 (x.toNat : Int), .int .i64 7] (w.drewN q) fun e w' => e = .returned (.int .u32 ((ror32 x 7).toNat : Int)) ∧ ∃ m, w' = w.drewN m :=
  right_q x 7 (by omega) (by omega) 7 rfl w q
theorem rq_11 (x : UInt32) (w : World) (q : Nat) : Calls Try.prog 70 #[.int .u32 (x.toNat : Int), .int .i64 11] (w.drewN q) fun e w' => e = .returned (.int .u32 ((ror32 x 11).toNat : Int)) ∧ ∃ m, w' = w.drewN m :=
  right_q x 11 (by omega) (by omega) 11 rfl w q
theorem rq_13 (x : UInt32) (w : World) (q : Nat) : Calls Try.prog 70 #[.int .u32 (x.toNat : Int), .int .i64 13] (w.drewN q) fun e w' => e = .returned (.int .u32 ((ror32 x 13).toNat : Int)) ∧ ∃ m, w' = w.drewN m :=
  right_q x 13 (by omega) (by omega) 13 rfl w q
theorem rq_17 (x : UInt32) (w : World) (q : Nat) : Calls Try.prog 70 #[.int .u32 (x.toNat : Int), .int .i64 17] (w.drewN q) fun e w' => e = .returned (.int .u32 ((ror32 x 17).toNat : Int)) ∧ ∃ m, w' = w.drewN m :=
  right_q x 17 (by omega) (by omega) 17 rfl w q
theorem rq_18 (x : UInt32) (w : World) (q : Nat) : Calls Try.prog 70 #[.int .u32 (x.toNat : Int), .int .i64 18] (w.drewN q) fun e w' => e = .returned (.int .u32 ((ror32 x 18).toNat : Int)) ∧ ∃ m, w' = w.drewN m :=
  right_q x 18 (by omega) (by omega) 18 rfl w q
theorem rq_19 (x : UInt32) (w : World) (q : Nat) : Calls Try.prog 70 #[.int .u32 (x.toNat : Int), .int .i64 19] (w.drewN q) fun e w' => e = .returned (.int .u32 ((ror32 x 19).toNat : Int)) ∧ ∃ m, w' = w.drewN m :=
  right_q x 19 (by omega) (by omega) 19 rfl w q
theorem rq_22 (x : UInt32) (w : World) (q : Nat) : Calls Try.prog 70 #[.int .u32 (x.toNat : Int), .int .i64 22] (w.drewN q) fun e w' => e = .returned (.int .u32 ((ror32 x 22).toNat : Int)) ∧ ∃ m, w' = w.drewN m :=
  right_q x 22 (by omega) (by omega) 22 rfl w q
theorem rq_25 (x : UInt32) (w : World) (q : Nat) : Calls Try.prog 70 #[.int .u32 (x.toNat : Int), .int .i64 25] (w.drewN q) fun e w' => e = .returned (.int .u32 ((ror32 x 25).toNat : Int)) ∧ ∃ m, w' = w.drewN m :=
  right_q x 25 (by omega) (by omega) 25 rfl w q

theorem tab_size : (Try.prog.info? 103).map (·.size) = some 64 := by kernel_rfl

def kTabV : List Value := [.int .u32 1116352408, .int .u32 1899447441, .int .u32 3049323471, .int .u32 3921009573, .int .u32 961987163, .int .u32 1508970993, .int .u32 2453635748, .int .u32 2870763221, .int .u32 3624381080, .int .u32 310598401, .int .u32 607225278, .int .u32 1426881987, .int .u32 1925078388, .int .u32 2162078206, .int .u32 2614888103, .int .u32 3248222580, .int .u32 3835390401, .int .u32 4022224774, .int .u32 264347078, .int .u32 604807628, .int .u32 770255983, .int .u32 1249150122, .int .u32 1555081692, .int .u32 1996064986, .int .u32 2554220882, .int .u32 2821834349, .int .u32 2952996808, .int .u32 3210313671, .int .u32 3336571891, .int .u32 3584528711, .int .u32 113926993, .int .u32 338241895, .int .u32 666307205, .int .u32 773529912, .int .u32 1294757372, .int .u32 1396182291, .int .u32 1695183700, .int .u32 1986661051, .int .u32 2177026350, .int .u32 2456956037, .int .u32 2730485921, .int .u32 2820302411, .int .u32 3259730800, .int .u32 3345764771, .int .u32 3516065817, .int .u32 3600352804, .int .u32 4094571909, .int .u32 275423344, .int .u32 430227734, .int .u32 506948616, .int .u32 659060556, .int .u32 883997877, .int .u32 958139571, .int .u32 1322822218, .int .u32 1537002063, .int .u32 1747873779, .int .u32 1955562222, .int .u32 2024104815, .int .u32 2227730452, .int .u32 2361852424, .int .u32 2428436474, .int .u32 2756734187, .int .u32 3204031479, .int .u32 3329325298]
theorem kTabV_eq : kTab2.map u32v = kTabV := by kernel_rfl

theorem zeros32 : (List.replicate 64 (0 : UInt32)).map u32v = List.replicate 64 (.int .u32 0) := by rw [List.map_replicate]; rfl

set_option maxHeartbeats 1000000 in
theorem table_s (w : World) : Calls Try.prog 68 #[] w fun e w' => e = .returned (.agg (kTab2.map u32v).toArray) ∧ Below w.heap.size w w' := by
  go_enter Try.func68, Try.ntmps68
  go_upto_region 1 with fail
  refine absorb_wp (St.start_lay w [] |>.allocAt 0 rfl w.heap.size rfl _ _ |>.push_mk rfl) ?_
  intro w3 H3
  generalize w.heap.size = g1 at H3 ⊢
  replace H3 : St w [] w3 (lay [.blk g1 103 (List.replicate 64 (.int .u32 0))]) := H3
  have ht : w3.there g1 0 kTabV.toArray.size := by have := H3.there 0 rfl; rw [List.length_replicate] at this; exact this
  have h1 : kTabV.toArray.all (·.oneCell') = true := all_oneCell_toArray (by rw [← kTabV_eq]; exact u32_one _)
  go_wp2_with (refine wpList_store_mid rfl 103 (.tmp 0) (.tmp 1) rfl g1 0 kTabV.toArray rfl rfl ht (by rw [tab_size]; rfl) h1 ?_)
  have H4 := (H3.storeAll 0 rfl (vs := kTabV) rfl).upd_mk (by simp)
  exact bodyPost_ret (results_cell_row rfl _ _ g1 103 kTabV.toArray _ _ rfl (H4.blk 0 rfl) Try.underlying103 rfl (by rw [tab_size]; rfl)) rfl ⟨by rw [kTabV_eq], H4.below⟩
end Go.Proofs.Ytcnphkmcgefjoaa

namespace Go.Proofs.Ytcnphkmcgefjoaa
open Go.RowKit
set_option linter.unusedVariables false

theorem byteAt_in {l : List UInt8} {a : Int} {k : Nat} {x : UInt8} (ha : a = (k : Int)) (hx : l[k]? = some x) : byteAt l a = x.toNat := by
  obtain ⟨hk, rfl⟩ := List.getElem?_eq_some_iff.1 hx
  unfold byteAt
  rw [if_pos (by omega)]
  subst ha
  simp [List.getElem?_eq_getElem hk]

theorem within_yes (A : Option Addr) (n c N : Nat) (a : Int) (w : World) (hN : N ≤ 8) (h1 : -(N : Int) < a) (h2 : a < n) :
    Calls Try.prog 74 #[.slice A n c, .int .i64 a, .int .i64 (N : Int)] w fun e w' => e = .returned (.bool true) ∧ w = w' := by
  go_enter Try.func74, Try.ntmps74
  go_wp2
  go_ret
  exact ⟨by simp, rfl⟩
theorem within_no (A : Option Addr) (n c N : Nat) (a : Int) (w : World) (hN : N ≤ 8) (h : a ≤ -(N : Int) ∨ (n : Int) ≤ a) :
    Calls Try.prog 74 #[.slice A n c, .int .i64 a, .int .i64 (N : Int)] w fun e w' => e = .returned (.bool false) ∧ w = w' := by
  by_cases h1 : a ≤ -(N : Int)
  · go_enter Try.func74, Try.ntmps74
    go_wp2
    go_ret
    exact ⟨rfl, rfl⟩
  · have h2 : (n : Int) ≤ a := by omega
    go_enter Try.func74, Try.ntmps74
    go_wp2
    go_ret
    exact ⟨by simp; exact h2, rfl⟩
end Go.Proofs.Ytcnphkmcgefjoaa

namespace Go.Proofs.Ytcnphkmcgefjoaa
open Go.RowKit
set_option linter.unusedVariables false

theorem or_byteT_32 {b x : Nat} (hb : b ≤ 16777215) (hx : x ≤ 255) : bits .or .u32 ((b : Int) * 256) (x : Int) = ((256 * b + x : Nat) : Int) := by
  have e : (b : Int) * 256 = ((256 * b : Nat) : Int) := by omega
  rw [e, u32_or_nat _ _ (by omega) (by omega), Nat.two_pow_add_eq_or_of_lt (i := 8) (by omega)]
theorem or_byteT_64 {b x : Nat} (hb : b ≤ 72057594037927935) (hx : x ≤ 255) : bits .or .u64 ((b : Int) * 256) (x : Int) = ((256 * b + x : Nat) : Int) := by
  have e : (b : Int) * 256 = ((256 * b : Nat) : Int) := by omega
  rw [e, u64_or_nat _ _ (by omega) (by omega), Nat.two_pow_add_eq_or_of_lt (i := 8) (by omega)]

set_option maxRecDepth 20000 in
set_option maxHeartbeats 400000 in
theorem take_u32 (A : Option Addr) (n c : Nat) (l : List UInt8) (a : Int) (w : World) (h : Rd w 1 A n (l.map vb)) (hn : n ≤ 140737488355328) :
    Calls Try.prog 69 #[.slice A n c, .int .i64 a] w fun e w' => e = .returned (.int .u32 (beTo l a 4 : Nat)) ∧ w = w' := by
  have hl : l.length = n := by simpa using h.1
  have HL := Lib.hid hl
  clear hl
  by_cases hin : -(4 : Int) < a ∧ a < n
  · obtain ⟨hin1, hin2⟩ := hin
    go_enter Try.func69, Try.ntmps69
    go_wp2_with (first | (go_at_call 73; refine (width_u32 _).mono ?_; rintro e w1 ⟨rfl, rfl⟩) | (go_at_call 74; refine (within_yes A n c 4 a _ (by omega) (by omega) hin2).mono ?_; rintro e w1 ⟨rfl, rfl⟩))
    go_loop [5, 17] (fun y i => ∃ k : Nat, k ≤ 4 ∧ i = .int .i64 k ∧ y = .int .u32 (beTo l a k : Nat)) (fun _ i => 4 - (intOf i).toNat)
    case atStart => exact ⟨0, Nat.zero_le _, rfl, rfl⟩
    case round =>
      obtain ⟨k, hk, rfl, rfl⟩ := hrel
      by_cases hlt : k < 4
      · have hb := beTo_lt l a k
        have hp : 256 ^ k ≤ 16777216 := Nat.le_trans (Nat.pow_le_pow_right (by omega) (show k ≤ 3 by omega)) (by decide)
        have hs : beTo l a (k + 1) = 256 * beTo l a k + byteAt l (a + k) := rfl
        have hb' : ((beTo l a k : Nat) : Int) ≤ 16777215 := by omega
        have HS := Lib.hid hs
        clear hs hp hb
        by_cases h0 : a + k < 0
        · have hz : byteAt l (a + k) = 0 := byteAt_out l _ (.inl h0)
          have HZ := Lib.hid hz
          clear hz
          go_wp2
          go_round
          case rel => exact ⟨k + 1, by omega, by go_num, by rw [HS.out, HZ.out]; go_num⟩
          case measure => simp [intOf]; omega
        · by_cases h1 : a + k < n
          · obtain ⟨j, hj⟩ := Int.eq_ofNat_of_zero_le (by omega : 0 ≤ a + k)
            obtain ⟨p, x, rfl, hx, hc⟩ := h.byteAt (show j < n by omega)
            have hz : byteAt l (a + k) = x.toNat := byteAt_in hj hx
            have HZ := Lib.hid hz
            clear hz hx
            have hxb : (x.toNat : Int) ≤ 255 := by have := x.toNat_lt; omega
            have hjn : (j : Int) < n := by omega
            clear h0 h1
            go_wp2
            go_round
            case rel => exact ⟨k + 1, by omega, by go_num, by rw [HS.out, HZ.out, or_byteT_32 (by omega) (by omega)]⟩
            case measure => simp [intOf]; omega
          · have hz : byteAt l (a + k) = 0 := byteAt_out l _ (.inr (by have := HL.out; omega))
            have HZ := Lib.hid hz
            clear hz
            go_wp2
            go_round
            case rel => exact ⟨k + 1, by omega, by go_num, by rw [HS.out, HZ.out]; go_num⟩
            case measure => simp [intOf]; omega
      · have hkN : k = 4 := by omega
        subst hkN
        go_wp2
        go_ret
        exact ⟨rfl, rfl⟩
  · have hout : a + 4 ≤ 0 ∨ (l.length : Int) ≤ a := by have := HL.out; omega
    have hz := beTo_out l a 4 hout 4 (Nat.le_refl _)
    have HZ := Lib.hid hz
    have hno : a ≤ -((4 : Nat) : Int) ∨ (n : Int) ≤ a := by omega
    clear hz hout hin
    go_enter Try.func69, Try.ntmps69
    go_wp2_with (first | (go_at_call 73; refine (width_u32 _).mono ?_; rintro e w1 ⟨rfl, rfl⟩) | (go_at_call 74; refine (within_no A n c 4 a _ (by omega) hno).mono ?_; rintro e w1 ⟨rfl, rfl⟩))
    go_ret
    exact ⟨ret_int (by rw [HZ.out]; rfl), rfl⟩

end Go.Proofs.Ytcnphkmcgefjoaa

namespace Go.Proofs.Ytcnphkmcgefjoaa
/-- kind, size, count -/
abbrev RunT := Int × Int × Int
def runV (r : RunT) : List Value := [.int .u8 r.1, .int .i64 r.2.1, .int .i64 r.2.2]
def runsV (rs : List RunT) : List Value := rs.flatMap runV
/-- an event is noted n times -/
def noted (rs : List RunT) (k s n : Int) : List RunT :=
  match rs.getLast? with
  | some (k', s', c) => if k' = k ∧ s' = s then rs.dropLast ++ [(k, s, c + n)] else rs ++ [(k, s, n)]
  | none => [(k, s, n)]
def total : List RunT → Int
  | [] => 0
  | r :: rs => r.2.2 + total rs
theorem total_append (a b : List RunT) : total (a ++ b) = total a + total b := by
  induction a with
  | nil => simp [total]
  | cons x a ih => simp only [List.cons_append, total, ih]; omega
theorem runsV_length (rs : List RunT) : (runsV rs).length = rs.length * 3 := by
  induction rs with
  | nil => rfl
  | cons r rs ih => simp only [runsV, List.flatMap_cons, List.length_append, List.length_cons] at ih ⊢; rw [ih]; simp [runV]; omega
theorem runsV_append (a b : List RunT) : runsV (a ++ b) = runsV a ++ runsV b := by simp [runsV]
theorem runsV_get (rs : List RunT) (i j : Nat) (r : RunT) (hi : rs[i]? = some r) (hj : j < 3) : (runsV rs)[i * 3 + j]? = (runV r)[j]? := by
  induction rs generalizing i with
  | nil => simp at hi
  | cons a rs ih =>
    simp only [runsV, List.flatMap_cons]
    cases i with
    | zero =>
      simp at hi; subst hi
      rw [List.getElem?_append_left (by simp [runV]; omega)]; simp
    | succ i =>
      rw [List.getElem?_append_right (by simp [runV]; omega)]
      simp only [List.getElem?_cons_succ] at hi
      rw [← ih i hi]
      simp only [runsV]
      congr 1
      simp [runV]; omega
theorem runsV_set (rs : List RunT) (i : Nat) (r : RunT) (c : Int) (hi : rs[i]? = some r) : (runsV rs).set (i * 3 + 2) (.int .i64 c) = runsV (rs.set i (r.1, r.2.1, c)) := by
  induction rs generalizing i with
  | nil => simp at hi
  | cons a rs ih =>
    simp only [runsV, List.flatMap_cons]
    cases i with
    | zero =>
      simp at hi; subst hi
      simp [runV]
    | succ i =>
      simp only [List.getElem?_cons_succ] at hi
      rw [List.set_append_right _ _ (by simp [runV]; omega), List.set_cons_succ, List.flatMap_cons]
      congr 1
      have h := ih i hi
      simp only [runsV] at h
      rw [← h]
      congr 1
      simp [runV]; omega
theorem noted_nil (k s n : Int) : noted [] k s n = [(k, s, n)] := rfl
theorem noted_same (rs : List RunT) (m : Nat) (k s c n : Int) (hm : rs.length = m + 1) (h : rs[m]? = some (k, s, c)) : noted rs k s n = rs.set m (k, s, c + n) := by
  have hl : rs.getLast? = some (k, s, c) := by rw [List.getLast?_eq_getElem?, hm]; exact h
  unfold noted
  rw [hl]
  simp only [and_self, if_true]
  apply List.ext_getElem?
  intro i
  have hdl : rs.dropLast.length = m := by simp [hm]
  rcases Nat.lt_trichotomy i m with h1 | h1 | h1
  · rw [List.getElem?_append_left (by omega), List.getElem?_set_ne (by omega), List.getElem?_dropLast, if_pos (by omega)]
  · subst h1
    rw [List.getElem?_append_right (by omega), List.getElem?_set_self (by omega), hdl]
    simp
  · rw [List.getElem?_eq_none (by simp; omega), List.getElem?_eq_none (by simp; omega)]
theorem noted_other (rs : List RunT) (m : Nat) (k s k' s' c n : Int) (hm : rs.length = m + 1) (h : rs[m]? = some (k', s', c)) (hne : ¬ (k' = k ∧ s' = s)) : noted rs k s n = rs ++ [(k, s, n)] := by
  have hl : rs.getLast? = some (k', s', c) := by rw [List.getLast?_eq_getElem?, hm]; exact h
  unfold noted
  rw [hl]
  simp only [if_neg hne]
theorem total_set (rs : List RunT) (m : Nat) (k s c n : Int) (h : rs[m]? = some (k, s, c)) : total (rs.set m (k, s, c + n)) = total rs + n := by
  induction rs generalizing m with
  | nil => simp at h
  | cons a rs ih =>
    cases m with
    | zero => simp at h; subst h; simp [total]; omega
    | succ m => simp at h; simp only [List.set_cons_succ, total]; rw [ih m h]; omega
theorem total_noted (rs : List RunT) (k s n : Int) : total (noted rs k s n) = total rs + n := by
  cases hl : rs.getLast? with
  | none => have : rs = [] := by simpa using hl
            subst this; simp [noted, total]
  | some r =>
    obtain ⟨k', s', c⟩ := r
    obtain ⟨m, hm⟩ : ∃ m, rs.length = m + 1 := by
      cases rs with
      | nil => simp at hl
      | cons a r => exact ⟨r.length, rfl⟩
    have hg : rs[m]? = some (k', s', c) := by rw [List.getLast?_eq_getElem?, hm] at hl; exact hl
    by_cases h : k' = k ∧ s' = s
    · obtain ⟨rfl, rfl⟩ := h
      rw [noted_same rs m _ _ c n hm hg, total_set rs m _ _ c n hg]
    · rw [noted_other rs m k s k' s' c n hm hg h, total_append]; simp [total]
theorem total_nonneg (rs : List RunT) (h : ∀ r ∈ rs, 0 ≤ r.2.2) : 0 ≤ total rs := by
  induction rs with
  | nil => simp [total]
  | cons a rs ih => have := h a (by simp); have := ih fun r hr => h r (by simp [hr]); simp only [total]; omega
theorem total_ge (rs : List RunT) (h : ∀ r ∈ rs, 0 ≤ r.2.2) : ∀ r ∈ rs, r.2.2 ≤ total rs := by
  induction rs with
  | nil => simp
  | cons a rs ih =>
    intro r hr
    have h1 := h a (by simp)
    have h2 := total_nonneg rs fun r hr => h r (by simp [hr])
    simp only [total]
    rcases List.mem_cons.1 hr with rfl | hr
    · omega
    · have := ih (fun r hr => h r (by simp [hr])) r hr; omega
theorem noted_pos (rs : List RunT) (k s n : Int) (hn : 0 ≤ n) (h : ∀ r ∈ rs, 0 ≤ r.2.2) : ∀ r ∈ noted rs k s n, 0 ≤ r.2.2 := by
  intro r hr
  unfold noted at hr
  split at hr
  · rename_i k' s' c hl
    have hc := h _ (List.mem_of_getLast? hl)
    split at hr
    · rcases List.mem_append.1 hr with h1 | h1
      · exact h r (List.dropLast_subset _ h1)
      · simp at h1; subst h1; simp only at hc ⊢; omega
    · rcases List.mem_append.1 hr with h1 | h1
      · exact h r h1
      · simp at h1; subst h1; exact hn
  · simp at hr; subst hr; exact hn
theorem noted_length (rs : List RunT) (k s n : Int) : (noted rs k s n).length ≤ rs.length + 1 := by
  unfold noted
  split
  · split
    · simp only [List.length_append, List.length_dropLast, List.length_singleton]; omega
    · simp
  · simp
end Go.Proofs.Ytcnphkmcgefjoaa

namespace Go.Proofs.Ytcnphkmcgefjoaa
open Go.RowKit
set_option linter.unusedVariables false

/-- A ledger of the program: its runs, and how many events they stand for. -/
def ledO (g : Nat) (rs : List RunT) : Own := .ex fun v => .sep (.blk g 80 [v, .int .i64 (total rs)]) (.row 45 3 v rs.length (runsV rs))
def lptr (g : Nat) : Value := .pointer (some ⟨g, 0, none⟩)
theorem run_info : (Try.prog.info? 45).map (fun i => (i.zero, i.size, i.bytes)) = some (some (.agg #[.int .u8 0, .int .i64 0, .int .i64 0]), 3, 24) := by kernel_rfl

theorem row_shape {w : World} {e : TypeId} {size n : Nat} {v : Value} {xs : List Value} (h : w.ownsRow 0 e size v n xs) : ∃ A c, v = .slice A n c ∧ n ≤ c ∧ (0 < n → ∃ g, A = some ⟨g, 0, none⟩ ∧ g < w.heap.size) := by
  rcases h.2 with ⟨rfl, rfl⟩ | ⟨g, cap, cur, rfl, _, hg, hc, _⟩
  · exact ⟨_, _, rfl, by omega, fun h => by omega⟩
  · exact ⟨_, _, rfl, hc, fun _ => ⟨g, rfl, lt_of_heap hg⟩⟩

theorem led_close {w0 w : World} {F0 : List Nat} {E : Env} {g n : Nat} {t : Int} {v : Value} {xs : List Value} (rs : List RunT) (H : St w0 F0 w E) (h0 : E 0 = some (.blk g 80 [v, .int .i64 t])) (h1 : E 1 = some (.row 45 3 v n xs)) (ht : t = total rs) (hn : n = rs.length) (hx : xs = runsV rs) : St w0 F0 w (one (ledO g rs)) := by
  subst ht hn hx
  refine ((H.join 0 1 (by omega) h0 h1).shutEx (A := fun v => .sep (.blk g 80 [v, .int .i64 (total rs)]) (.row 45 3 v rs.length (runsV rs))) v 0 (by simp [upd])).sub fun k A hA => ?_
  by_cases hk : k = 0
  · subst hk; simp only [one, upd, if_true] at hA ⊢; exact hA
  · simp [one, upd, hk, Env.nil] at hA

set_option maxHeartbeats 1000000 in
theorem noteTimes_nil {F : List Nat} {w : World} (g : Nat) (k s n : Int) (HF : St w F w (one (ledO g []))) (hn : 1 ≤ n) (hb : n ≤ 4611686018427387904) :
    Calls Try.prog 67 #[lptr g, .agg #[.int .u8 k, .int .i64 s], .int .i64 n] w fun e w' => e = .returned (.tuple #[]) ∧ St w F w' (one (ledO g [(k, s, n)])) := by
  obtain ⟨i0, hi0, hz0, hz1, hz2⟩ := info_parts run_info
  obtain ⟨v, H1⟩ := HF.openEx 0 rfl
  have H2 := H1.part 0 1 (by omega) rfl rfl
  clear HF H1
  obtain ⟨A, c, rfl, hc, -⟩ := row_shape (H2.row 1 rfl)
  have c0 := H2.cell 0 rfl (o := 0) rfl
  have c1 : w.cell? ⟨g, 1, none⟩ = some (.int .i64 0) := H2.cell 0 rfl (o := 1) rfl
  have f0 := H2.free 0 rfl 0
  have f1 := H2.free 0 rfl 1
  have hg := H2.lt 0 rfl
  have hn1 : ¬ n < 1 := by omega
  unfold lptr
  go_enter Try.func67, Try.ntmps67
  go_wp2
  go_quiet (fail)
  go_wp2
  have H3 := ((H2.store 0 rfl (o := 1) (u := .int .i64 n)).allocAt 2 rfl w.heap.size (by simp [World.setCell]) #[.int .u8 k, .int .i64 s] 43).drewN nq
  clear c0 c1 f0 f1 hg H2
  generalize hw3 : ((w.setCell ⟨g, 1, none⟩ (.int .i64 n)).alloc (.cells #[.int .u8 k, .int .i64 s] 43)).drewN nq = w3 at H3 ⊢
  clear hw3
  generalize w.heap.size = b at H3 ⊢
  have c0 := H3.cell 0 rfl (o := 0) rfl
  have c1 := H3.cell 2 rfl (o := 0) rfl
  have c2 := H3.cell 2 rfl (o := 1) rfl
  have f0 := H3.free 0 rfl 0
  have hg := H3.lt 0 rfl
  have hb := H3.lt 2 rfl
  have hr := H3.row 1 rfl
  go_region_law (refine step_append_any _ (by rfl) (.tmp 58) (.tmp 62) _ (by rfl) 0 45 i0 (.agg #[.int .u8 0, .int .i64 0, .int .i64 0]) 3 24 Try.underlying33 hi0 hz0 hz1 hz2 rfl (by omega) (.slice A 0 c) 0 [] (by rfl) ((hr.alloc _)) (some ⟨w3.heap.size, 0, none⟩) 1 1 [.int .u8 k, .int .i64 s, .int .i64 n] (by rfl) (rd_new _ _ _ 3 rfl) (by simp [Value.oneCell']) (by simp only [maxLen]; omega) (by omega) (by omega) ?_; intro v1 w1 hown1 hg1 hat1; obtain ⟨A1, d1, rfl, hd1, -⟩ := row_shape hown1; have H4 := ((H3.alloc 3 rfl #[.int .u8 k, .int .i64 s, .int .i64 n] 45).drew).grow 1 rfl hown1 hg1 hat1; have k0 := H4.cell 0 rfl (o := 0) rfl; have k1 := H4.cell 2 rfl (o := 0) rfl; have k2 := H4.cell 2 rfl (o := 1) rfl; have k3 := H4.free 0 rfl 0)
  all_goals go_wp2
  all_goals go_end0
  all_goals exact ⟨rfl, led_close [(k, s, n)] (H4.store 0 rfl (o := 0) (u := .slice A1 1 d1)) rfl rfl (by simp [total]) rfl rfl⟩

theorem run_cells {w : World} {g' n d m : Nat} {rs : List RunT} {r : RunT} (h : w.ownsRow 0 45 3 (.slice (some ⟨g', 0, none⟩) n d) n (runsV rs)) (hr : rs[m]? = some r) :
    w.cell? ⟨g', m * 3, none⟩ = some (.int .u8 r.1) ∧ w.cell? ⟨g', m * 3 + 1, none⟩ = some (.int .i64 r.2.1) ∧ w.cell? ⟨g', m * 3 + 2, none⟩ = some (.int .i64 r.2.2) ∧ w.frozen? ⟨g', m * 3 + 2, none⟩ = false := by
  have hn : rs.length * 3 = n * 3 := by rw [← runsV_length]; exact h.1
  have hm : m < rs.length := (List.getElem?_eq_some_iff.1 hr).1
  refine ⟨?_, ?_, ?_, World.ownsRow.frozenAt h _⟩
  · have := World.ownsRow.cellAt h (m * 3 + 0) (by omega)
    rw [runsV_get rs m 0 _ hr (by omega)] at this; exact this
  · rw [World.ownsRow.cellAt h _ (by omega), runsV_get rs m 1 _ hr (by omega)]; rfl
  · rw [World.ownsRow.cellAt h _ (by omega), runsV_get rs m 2 _ hr (by omega)]; rfl

set_option maxHeartbeats 1000000 in
theorem noteTimes_same {F : List Nat} {w : World} (g m : Nat) (rs : List RunT) (k s c n : Int) (hm : rs.length = m + 1) (hr : rs[m]? = some (k, s, c)) (HF : St w F w (one (ledO g rs))) (hn : 1 ≤ n) (hb : n ≤ 4611686018427387904) (hc0 : 0 ≤ c) (hc : c + n ≤ 4611686018427387904) (ht : 0 ≤ total rs) (ht' : total rs + n ≤ 4611686018427387904) (hl : m ≤ 1000000000000) :
    Calls Try.prog 67 #[lptr g, .agg #[.int .u8 k, .int .i64 s], .int .i64 n] w fun e w' => e = .returned (.tuple #[]) ∧ St w F w' (one (ledO g (rs.set m (k, s, c + n)))) := by
  obtain ⟨v, H1⟩ := HF.openEx 0 rfl
  have H2 := H1.part 0 1 (by omega) rfl rfl
  clear HF H1
  obtain ⟨A, d, rfl, hd, hA⟩ := row_shape (H2.row 1 rfl)
  obtain ⟨g', rfl, -⟩ := hA (by omega)
  clear hA
  have c0 := H2.cell 0 rfl (o := 0) rfl
  have c1 := H2.cell 0 rfl (o := 1) rfl
  have f0 := H2.free 0 rfl 0
  have f1 := H2.free 0 rfl 1
  have hg := H2.lt 0 rfl
  have hn1 : ¬ n < 1 := by omega
  rw [hm] at c0
  have HM := Lib.hid hm
  have HR := Lib.hid hr
  clear hm hr
  unfold lptr
  go_enter Try.func67, Try.ntmps67
  go_wp2
  have H3 := ((H2.store 0 rfl (o := 1) (u := .int .i64 (total rs + n))).allocAt 2 rfl w.heap.size (by simp [World.setCell]) #[.int .u8 k, .int .i64 s] 43)
  clear c0 c1 f0 f1 hg H2
  generalize hw3 : ((w.setCell ⟨g, 1, none⟩ (.int .i64 (total rs + n))).alloc (.cells #[.int .u8 k, .int .i64 s] 43)) = w3 at H3 ⊢
  clear hw3
  generalize w.heap.size = b at H3 ⊢
  have c0 := H3.cell 0 rfl (o := 0) rfl
  rw [HM.out] at c0
  have c1 := H3.cell 2 rfl (o := 0) rfl
  have c2 := H3.cell 2 rfl (o := 1) rfl
  obtain ⟨r0, r1, r2, fr⟩ := run_cells (H3.row 1 rfl) HR.out
  have hi : IntKind.i64.wrap (m : Int) = (m : Int) := IntWalk.i64_in _ (by omega)
  go_quiet (fail)
  clear hi
  go_wp2
  refine bodyPost_ret (results_none rfl _ _ _) rfl ⟨rfl, ?_⟩
  exact led_close _ ((H3.drewN nq).rowStore 1 rfl (o := m * 3 + 2) (u := .int .i64 (c + n))) rfl rfl (total_set rs m k s c n HR.out).symm (by simp) (runsV_set rs m _ _ HR.out)

set_option maxHeartbeats 1000000 in
theorem noteTimes_other {F : List Nat} {w : World} (g m : Nat) (rs : List RunT) (k s k' s' c n : Int) (hm : rs.length = m + 1) (hr : rs[m]? = some (k', s', c)) (hne : ¬ (k' = k ∧ s' = s)) (HF : St w F w (one (ledO g rs))) (hn : 1 ≤ n) (hb : n ≤ 4611686018427387904) (ht : 0 ≤ total rs) (ht' : total rs + n ≤ 4611686018427387904) (hl : m ≤ 1000000000000) :
    Calls Try.prog 67 #[lptr g, .agg #[.int .u8 k, .int .i64 s], .int .i64 n] w fun e w' => e = .returned (.tuple #[]) ∧ St w F w' (one (ledO g (rs ++ [(k, s, n)]))) := by
  obtain ⟨v, H1⟩ := HF.openEx 0 rfl
  have H2 := H1.part 0 1 (by omega) rfl rfl
  clear HF H1
  obtain ⟨A, d, rfl, hd, hA⟩ := row_shape (H2.row 1 rfl)
  obtain ⟨g', rfl, -⟩ := hA (by omega)
  clear hA
  have c0 := H2.cell 0 rfl (o := 0) rfl
  have c1 := H2.cell 0 rfl (o := 1) rfl
  have f0 := H2.free 0 rfl 0
  have f1 := H2.free 0 rfl 1
  have hg := H2.lt 0 rfl
  have hn1 : ¬ n < 1 := by omega
  rw [hm] at c0
  have HM := Lib.hid hm
  have HR := Lib.hid hr
  have HN := Lib.hid hne
  clear hm hr hne
  unfold lptr
  go_enter Try.func67, Try.ntmps67
  go_wp2
  have H3 := ((H2.store 0 rfl (o := 1) (u := .int .i64 (total rs + n))).allocAt 2 rfl w.heap.size (by simp [World.setCell]) #[.int .u8 k, .int .i64 s] 43)
  clear c0 c1 f0 f1 hg H2
  generalize hw3 : ((w.setCell ⟨g, 1, none⟩ (.int .i64 (total rs + n))).alloc (.cells #[.int .u8 k, .int .i64 s] 43)) = w3 at H3 ⊢
  clear hw3
  generalize w.heap.size = b at H3 ⊢
  have c0 := H3.cell 0 rfl (o := 0) rfl
  rw [HM.out] at c0
  have c1 := H3.cell 2 rfl (o := 0) rfl
  have c2 := H3.cell 2 rfl (o := 1) rfl
  obtain ⟨r0, r1, r2, fr⟩ := run_cells (H3.row 1 rfl) HR.out
  have hi : IntKind.i64.wrap (m : Int) = (m : Int) := IntWalk.i64_in _ (by omega)
  have hi2 : (m : Int) < (m : Int) + 1 := by omega
  have hi3 : (0 : Int) ≤ (m : Int) := by omega
  have hq : (k' == k) = false ∨ (k' = k ∧ (s' == s) = false) := by
    by_cases hk : k' = k
    · exact .inr ⟨hk, by simpa using fun h => HN.out ⟨hk, h⟩⟩
    · exact .inl (by simpa using hk)
  rcases hq with hq | ⟨hq0, hq⟩
  all_goals
    try (have hq1 := hq0.symm; subst hq1)
    go_quiet (fail)
    clear hi hi2 hi3 hq
    go_wp2
    have H4 := H3.drewN nq
    clear c0 c1 c2 r0 r1 r2 fr H3
    generalize w3.drewN nq = w4 at H4 ⊢
    obtain ⟨i0, hi0, hz0, hz1, hz2⟩ := info_parts run_info
    have c0 := H4.cell 0 rfl (o := 0) rfl
    rw [HM.out] at c0
    have c1 := H4.cell 2 rfl (o := 0) rfl
    have c2 := H4.cell 2 rfl (o := 1) rfl
    have f0 := H4.free 0 rfl 0
    have hg := H4.lt 0 rfl
    have hbb := H4.lt 2 rfl
    have hr := H4.row 1 rfl
    rw [HM.out] at hr
    go_region_law (refine step_append_any _ (by rfl) (.tmp 58) (.tmp 62) _ (by rfl) 0 45 i0 (.agg #[.int .u8 0, .int .i64 0, .int .i64 0]) 3 24 Try.underlying33 hi0 hz0 hz1 hz2 rfl (by omega) (.slice (some ⟨g', 0, none⟩) (m + 1) d) (m + 1) (runsV rs) (by rfl) ((hr.alloc _)) (some ⟨w4.heap.size, 0, none⟩) 1 1 [.int .u8 k, .int .i64 s, .int .i64 n] (by rfl) (rd_new _ _ _ 3 rfl) (by simp [Value.oneCell']) (by simp only [maxLen]; omega) (by omega) (by omega) ?_; intro v1 w1 hown1 hg1 hat1; obtain ⟨A1, d1, rfl, hd1, -⟩ := row_shape hown1; have H5 := ((H4.alloc 3 rfl #[.int .u8 k, .int .i64 s, .int .i64 n] 45).drew).grow 1 rfl hown1 hg1 hat1; have k0 := H5.cell 0 rfl (o := 0) rfl; have k3 := H5.free 0 rfl 0)
    all_goals go_wp2
    all_goals go_end0
    all_goals exact ⟨rfl, led_close (rs ++ [(k, s, n)]) (H5.store 0 rfl (o := 0) (u := .slice A1 (m + 1 + 1) d1)) rfl rfl (by rw [total_append]; simp [total]) (by simp [HM.out]) (by rw [runsV_append]; rfl)⟩

/-- Of any ledger that is one: an event is noted. -/
theorem noteTimes_led {F : List Nat} {w : World} (g : Nat) (rs : List RunT) (k s n : Int) (HF : St w F w (one (ledO g rs))) (hn : 1 ≤ n) (hb : n ≤ 4611686018427387904) (h0 : ∀ r ∈ rs, 0 ≤ r.2.2) (ht' : total rs + n ≤ 4611686018427387904) (hl : rs.length ≤ 1000000000000) :
    Calls Try.prog 67 #[lptr g, .agg #[.int .u8 k, .int .i64 s], .int .i64 n] w fun e w' => e = .returned (.tuple #[]) ∧ St w F w' (one (ledO g (noted rs k s n))) := by
  have ht := total_nonneg rs h0
  rcases Nat.eq_zero_or_pos rs.length with hz | hz
  · have : rs = [] := List.length_eq_zero_iff.1 hz
    subst this
    rw [noted_nil]
    exact noteTimes_nil g k s n HF hn hb
  · obtain ⟨m, hm⟩ : ∃ m, rs.length = m + 1 := ⟨rs.length - 1, by omega⟩
    obtain ⟨r, hr⟩ : ∃ r, rs[m]? = some r := ⟨rs[m], List.getElem?_eq_getElem (by omega)⟩
    obtain ⟨k', s', c⟩ := r
    have hc0 := h0 _ (List.mem_of_getElem? hr)
    have hc1 := total_ge rs h0 _ (List.mem_of_getElem? hr)
    by_cases he : k' = k ∧ s' = s
    · obtain ⟨rfl, rfl⟩ := he
      rw [noted_same rs m _ _ c n hm hr]
      exact noteTimes_same g m rs _ _ c n hm hr HF hn hb hc0 (by simp only at hc1; omega) ht ht' (by omega)
    · rw [noted_other rs m k s k' s' c n hm hr he]
      exact noteTimes_other g m rs k s k' s' c n hm hr he HF hn hb ht ht' (by omega)
end Go.Proofs.Ytcnphkmcgefjoaa

namespace Go.Proofs.Ytcnphkmcgefjoaa
open Go.RowKit
set_option linter.unusedVariables false

/-- a ledger, or none -/
def led (l : Value) : Option (List RunT) → Own
  | none => .fact (l = .pointer none) .emp
  | some rs => .ex fun g => .fact (l = lptr g) (ledO g rs)
/-- runs as a ledger has them, at most b events -/
def Runs.Good (rs : List RunT) (b : Int) : Prop := (∀ r ∈ rs, 1 ≤ r.2.2) ∧ total rs ≤ b
def LGood (r : Option (List RunT)) (b : Int) : Prop := ∀ rs, r = some rs → Runs.Good rs b
theorem Runs.Good.length {rs : List RunT} {b : Int} (h : Runs.Good rs b) : (rs.length : Int) ≤ b := by
  obtain ⟨h1, h2⟩ := h
  refine Int.le_trans ?_ h2
  clear h2
  induction rs with
  | nil => simp [total]
  | cons a rs ih =>
    have := h1 a (by simp)
    have := ih fun r hr => h1 r (by simp [hr])
    simp only [total, List.length_cons]; omega
theorem Runs.Good.noted {rs : List RunT} {b : Int} (h : Runs.Good rs b) (k s n : Int) (hn : 1 ≤ n) : Runs.Good (noted rs k s n) (b + n) := by
  refine ⟨?_, by rw [total_noted]; have := h.2; omega⟩
  intro r hr
  unfold Go.Proofs.Ytcnphkmcgefjoaa.noted at hr
  split at hr
  · rename_i k' s' c hl
    have hc := h.1 _ (List.mem_of_getLast? hl)
    split at hr
    · rcases List.mem_append.1 hr with h1 | h1
      · exact h.1 r (List.dropLast_subset _ h1)
      · simp at h1; subst h1; simp only at hc ⊢; omega
    · rcases List.mem_append.1 hr with h1 | h1
      · exact h.1 r h1
      · simp at h1; subst h1; exact hn
  · simp at hr; subst hr; exact hn
theorem LGood.noted {r : Option (List RunT)} {b : Int} (h : LGood r b) (k s n : Int) (hn : 1 ≤ n) : LGood (r.map fun rs => noted rs k s n) (b + n) := by
  intro rs hrs
  cases r with
  | none => cases hrs
  | some rs0 => simp at hrs; subst hrs; exact (h rs0 rfl).noted k s n hn
theorem LGood.none (b : Int) : LGood none b := fun _ h => by cases h
theorem LGood.nil : LGood (some []) 0 := fun rs h => by injection h with h; subst h; exact ⟨by simp, by simp [total]⟩
theorem LGood.more {r : Option (List RunT)} {b b' : Int} (h : LGood r b) (hb : b ≤ b') : LGood r b' := fun rs hr => ⟨(h rs hr).1, Int.le_trans (h rs hr).2 hb⟩

section
variable {w0 w : World} {F0 : List Nat} {E : Env}

theorem St.ledNil (H : St w0 F0 w E) (k : Nat) (hk : E k = Option.none) : St w0 F0 w (upd E k (led (.pointer none) none)) :=
  by have h := (H.nothing k hk).shutFact (p := Value.pointer none = Value.pointer none) rfl k upd_same; rw [upd_upd] at h; exact h
theorem St.ledOpen {l : Value} {rs : List RunT} (H : St w0 F0 w E) (i : Nat) (hi : E i = some (led l (some rs))) : ∃ g, l = lptr g ∧ St w0 F0 w (upd E i (ledO g rs)) := by
  obtain ⟨g, H1⟩ := H.openEx i hi
  obtain ⟨h, H2⟩ := H1.openFact i upd_same
  simp only [upd_upd] at H2
  exact ⟨g, h, H2⟩
theorem St.ledShut {rs : List RunT} {g : Nat} (H : St w0 F0 w E) (i : Nat) (hi : E i = some (ledO g rs)) : St w0 F0 w (upd E i (led (lptr g) (some rs))) := by
  have H1 := H.shutFact (p := lptr g = lptr g) rfl i hi
  have H2 := H1.shutEx (A := fun g' => .fact (lptr g = lptr g') (ledO g' rs)) g i upd_same
  rw [upd_upd] at H2
  exact H2

set_option maxHeartbeats 400000 in
theorem ledger_new (H : St w0 F0 w E) (k : Nat) (hk : E k = Option.none) : Calls Try.prog 10 #[] w fun e w' => ∃ v, e = .returned v ∧ St w0 F0 w' (upd E k (led v (some []))) := by
  go_enter Try.func10, Try.ntmps10
  go_wp2
  go_ret
  refine ⟨_, rfl, ?_⟩
  have ho : (ledO w.heap.size []).holds (w.alloc (.cells #[.slice none 0 0, .int .i64 0] 80)) [w.heap.size] :=
    ⟨.slice none 0 0, [w.heap.size], [], rfl, ⟨by rw [heap_alloc_new]; rfl, rfl⟩, ⟨World.ownsRow_nil _ _ _ _, rfl⟩, by simp⟩
  have H1 := H.push k hk ((Below.refl _ _).alloc (Nat.le_refl _) _) ho (by simp)
  have H2 := H1.ledShut k upd_same
  simp only [upd_upd] at H2
  exact H2

set_option maxHeartbeats 400000 in
theorem noteTimes_none (k s n : Int) : Calls Try.prog 67 #[.pointer none, .agg #[.int .u8 k, .int .i64 s], .int .i64 n] w fun e w' => e = .returned (.tuple #[]) ∧ Below w.heap.size w w' := by
  go_enter Try.func67, Try.ntmps67
  go_wp2
  refine bodyPost_ret (results_none rfl _ _ _) rfl ⟨rfl, ?_⟩
  exact (Below.refl _ _).alloc (Nat.le_refl _) _

set_option maxHeartbeats 400000 in
theorem ledger_note {l : Value} {r : Option (List RunT)} (b k s : Int) (H : St w0 F0 w E) (i : Nat) (hi : E i = some (led l r)) (hg : LGood r b) (hb : b ≤ 1000000) :
    Calls Try.prog 57 #[l, .agg #[.int .u8 k, .int .i64 s]] w fun e w' => e = .returned (.tuple #[]) ∧ St w0 F0 w' (upd E i (led l (r.map fun rs => noted rs k s 1))) := by
  cases r with
  | none =>
    obtain ⟨rfl, H1⟩ := H.openFact i hi
    go_enter Try.func57, Try.ntmps57
    go_wp2_with fail
    refine (noteTimes_none k s 1).mono ?_
    rintro e w1 ⟨rfl, hb1⟩
    go_wp2
    go_end0
    have H2 := (H.call ((Below.refl _ _).alloc (Nat.le_refl _) _)).call hb1
    exact ⟨rfl, by rw [← upd_id hi] at H2; exact H2⟩
  | some rs =>
    obtain ⟨g, rfl, H1⟩ := H.ledOpen i hi
    obtain ⟨h1, h2⟩ := hg rs rfl
    have hl := (hg rs rfl).length
    have h0 : ∀ r ∈ rs, 0 ≤ r.2.2 := fun r hr => by have := h1 r hr; omega
    have H2 := H1.call ((Below.refl _ _).alloc (Nat.le_refl _) (.cells #[.int .u8 k, .int .i64 s] 43))
    obtain ⟨F, HF, -, -, hback⟩ := H2.frame1 i upd_same
    have hc := noteTimes_led g rs k s 1 HF (by omega) (by omega) h0 (by omega) (by omega)
    clear hl h0 h1 h2 HF H1 H2 H
    unfold lptr at hc ⊢
    have HC := Lib.hid hc
    have HB := Lib.hid hback
    clear hc hback
    go_enter Try.func57, Try.ntmps57
    go_wp2_with fail
    refine HC.out.mono ?_
    rintro e w1 ⟨rfl, hs⟩
    go_wp2
    go_end0
    have H3 := (HB.out _ _ hs).ledShut i upd_same
    simp only [upd_upd] at H3
    exact ⟨rfl, H3⟩

def runsO (v : Value) (rs : List RunT) : Own := .row 45 3 v rs.length (runsV rs)
theorem St.ledRead {l : Value} {rs : List RunT} (H : St w0 F0 w E) (i : Nat) (hi : E i = some (led l (some rs))) :
    ∃ g A c, l = lptr g ∧ g < w.heap.size ∧ w.cell? ⟨g, 0, none⟩ = some (.slice A rs.length c) ∧ w.cell? ⟨g, 1, none⟩ = some (.int .i64 (total rs)) ∧ Rd w 3 A rs.length (runsV rs) := by
  obtain ⟨F, ⟨g, hl, v, G, K, eF, ⟨hb, -⟩, ⟨hr, -⟩, -⟩, -⟩ := H.change i hi
  obtain ⟨A, c, rfl, -, -⟩ := row_shape hr
  exact ⟨g, A, c, hl, lt_of_heap hb, by rw [cell_of_row w g 0 _ _ _ hb]; rfl, by rw [cell_of_row w g 1 _ _ _ hb]; rfl, Rd.of_own hr⟩

theorem runsV_one (rs : List RunT) : ∀ u ∈ runsV rs, u.oneCell' = true := by
  intro u hu
  obtain ⟨r, -, hr⟩ := List.mem_flatMap.1 hu
  simp [runV] at hr
  rcases hr with rfl | rfl | rfl <;> rfl

set_option maxHeartbeats 400000 in
theorem ledger_runs {l : Value} {r : Option (List RunT)} (b : Int) (H : St w0 F0 w E) (i : Nat) (hi : E i = some (led l r)) (hg : LGood r b) (hb : b ≤ 1000000) (k : Nat) (hk : E k = Option.none) :
    Calls Try.prog 17 #[l] w fun e w' => ∃ v, e = .returned v ∧ St w0 F0 w' (upd E k (runsO v (r.getD []))) := by
  cases r with
  | none =>
    obtain ⟨rfl, H1⟩ := H.openFact i hi
    go_enter Try.func17, Try.ntmps17
    go_wp2
    go_ret
    exact ⟨_, rfl, H.nilRow k hk _ _⟩
  | some rs =>
    obtain ⟨i0, hi0, hz0, hz1, hz2⟩ := info_parts run_info
    obtain ⟨g, A, c, rfl, hlt, c0, -, hr⟩ := H.ledRead i hi
    have hl := (hg rs rfl).length
    unfold lptr
    go_enter Try.func17, Try.ntmps17
    go_wp2_with (at_builtin; refine wpList_append_any _ rfl (.tmp 5) (.tmp 9) _ rfl w.heap.size 45 i0 _ 3 24 Try.underlying33 hi0 hz0 hz1 hz2 rfl (by omega) (.slice (some ⟨w.heap.size, 0, none⟩) 0 0) 0 [] rfl (World.ownsRow_made _ _ 0 (Nat.le_refl _) (by simp [maxLen]) rfl) A rs.length c (runsV rs) rfl (hr.below ((Below.refl _ _).alloc (Nat.le_refl _) _)) (runsV_one rs) (by simp only [maxLen]; omega) (by omega) (by simp) ?_; intro v1 w1 hown1 hg1 hat1)
    go_ret
    refine ⟨_, rfl, H.pushRow k hk (((Below.refl _ _).alloc (Nat.le_refl _) _).grown hg1 (by simp) (fun g hg => by simp [Value.ownBlock] at hg; omega)) ?_⟩
    have h := hown1
    rw [Nat.zero_add, List.nil_append] at h
    exact h

set_option maxHeartbeats 400000 in
theorem sameRuns_any (A B : Option Addr) (c d : Nat) (xs ys : List RunT) (ha : Rd w 3 A xs.length (runsV xs)) (hb : Rd w 3 B ys.length (runsV ys)) (hn : xs.length ≤ 1000000000) (hm : ys.length ≤ 1000000000) :
    Calls Try.prog 16 #[.slice A xs.length c, .slice B ys.length d] w fun e w' => e = .returned (.bool (decide (xs = ys))) ∧ ∃ k, w' = w.drewN k := by
  by_cases hnm : xs.length = ys.length
  · have Hl := Lib.hid hnm
    have h0 : ((xs.length : Int) != (ys.length : Int)) = false := by rw [hnm]; simp
    clear hnm
    go_enter Try.func16, Try.ntmps16
    go_wp2
    clear h0
    go_loopw [5] (fun i wr => ∃ k q : Nat, k ≤ xs.length ∧ i = .int .i64 k ∧ wr = w.drewN q ∧ Hid (xs.take k = ys.take k)) (fun i _ => xs.length - (intOf i).toNat)
    case atStart => exact ⟨0, 0, Nat.zero_le _, rfl, rfl, rfl⟩
    case round =>
      obtain ⟨k, q, hk, rfl, rfl, hpre⟩ := hrel
      by_cases hlt : k < xs.length
      · have hlt' : k < ys.length := by rw [← Hl.out]; exact hlt
        obtain ⟨⟨x1, x2, x3⟩, hx⟩ : ∃ r, xs[k]? = some r := ⟨_, List.getElem?_eq_getElem hlt⟩
        obtain ⟨⟨y1, y2, y3⟩, hy⟩ : ∃ r, ys[k]? = some r := ⟨_, List.getElem?_eq_getElem hlt'⟩
        obtain ⟨p, o, rfl, -, hcx⟩ := ha.flat (by omega) (by omega)
        obtain ⟨p', o', rfl, -, hcy⟩ := hb.flat (by omega) (by omega)
        have a0 := hcx (k * 3 + 0) _ (runsV_get xs k 0 _ hx (by omega))
        have a1 := hcx (k * 3 + 1) _ (runsV_get xs k 1 _ hx (by omega))
        have a2 := hcx (k * 3 + 2) _ (runsV_get xs k 2 _ hx (by omega))
        have b0 := hcy (k * 3 + 0) _ (runsV_get ys k 0 _ hy (by omega))
        have b1 := hcy (k * 3 + 1) _ (runsV_get ys k 1 _ hy (by omega))
        have b2 := hcy (k * 3 + 2) _ (runsV_get ys k 2 _ hy (by omega))
        have HX := Lib.hid hx
        have HY := Lib.hid hy
        clear hx hy hcx hcy
        rw [Nat.add_zero] at a0 b0
        rw [← Nat.add_assoc] at a1 a2 b1 b2
        have hk1 : (k : Int) < (xs.length : Int) := by omega
        have hk2 : (k : Int) < (ys.length : Int) := by omega
        go_wp2
        by_cases hxy : (x1, x2, x3) = ((y1, y2, y3) : RunT)
        · simp only [Prod.mk.injEq] at hxy
          obtain ⟨rfl, rfl, rfl⟩ := hxy
          go_quiet (fail)
          clear hk1 hk2
          go_wp2
          go_roundw
          case rel => exact ⟨k + 1, q + nq, by omega, by go_num, by simp, take_succ_eq hpre.out HX.out HY.out⟩
          case measure => simp [intOf]; omega
        · have hq : (x1 == y1) = false ∨ (x1 = y1 ∧ (x2 == y2) = false) ∨ (x1 = y1 ∧ x2 = y2 ∧ (x3 == y3) = false) := by
            by_cases h1 : x1 = y1
            · by_cases h2 : x2 = y2
              · exact .inr (.inr ⟨h1, h2, by simpa using fun h => hxy (by rw [h1, h2, h])⟩)
              · exact .inr (.inl ⟨h1, by simpa using h2⟩)
            · exact .inl (by simpa using h1)
          rcases hq with hq | ⟨rfl, hq⟩ | ⟨rfl, rfl, hq⟩
          all_goals
            go_quiet (fail)
            clear hk1 hk2
            go_wp2
            go_ret
            refine ⟨ret_bool ?_, q + nq, by simp⟩
            symm; simp only [decide_eq_false_iff_not]
            rintro rfl
            have a := HX.out
            have b := HY.out
            rw [a] at b
            exact hxy (Option.some.inj b)
      · go_wp2
        go_ret
        refine ⟨ret_bool ?_, q, rfl⟩
        symm; simp only [decide_eq_true_eq]
        have h := hpre.out
        have a := Hl.out
        rwa [List.take_of_length_le (by omega), List.take_of_length_le (by omega)] at h
  · have h0 : ((xs.length : Int) != (ys.length : Int)) = true := by simp only [bne_iff_ne, ne_eq]; omega
    have Hl := Lib.hid hnm
    clear hnm
    go_enter Try.func16, Try.ntmps16
    go_wp2
    go_ret
    refine ⟨ret_bool ?_, 0, rfl⟩
    symm; simp only [decide_eq_false_iff_not]
    rintro rfl
    exact Hl.out rfl
end
end Go.Proofs.Ytcnphkmcgefjoaa

namespace Go.Proofs.Ytcnphkmcgefjoaa
open Go.RowKit
set_option linter.unusedVariables false

/-- runs as a ledger has them: at most m runs, b events in all -/
def LW (r : Option (List RunT)) (m : Nat) (b : Int) : Prop := ∀ rs, r = some rs → (∀ x ∈ rs, 1 ≤ x.2.2) ∧ rs.length ≤ m ∧ total rs ≤ b

theorem LW.none (m : Nat) (b : Int) : LW none m b := fun _ h => by cases h

theorem LW.nil : LW (some []) 0 0 := fun rs h => by injection h with h; subst h; exact ⟨by simp, by simp, by simp [total]⟩

theorem LW.more {r : Option (List RunT)} {m m' : Nat} {b b' : Int} (h : LW r m b) (hm : m ≤ m') (hb : b ≤ b') : LW r m' b' := fun rs hr => ⟨(h rs hr).1, Nat.le_trans (h rs hr).2.1 hm, Int.le_trans (h rs hr).2.2 hb⟩

theorem LGood.lw {r : Option (List RunT)} {b : Int} (h : LGood r b) : LW r b.toNat b := fun rs hr => ⟨(h rs hr).1, by have := (h rs hr).length; omega, (h rs hr).2⟩

/-- n times the same event, none perhaps -/
def noteN (r : Option (List RunT)) (k s : Int) (n : Nat) : Option (List RunT) := if n = 0 then r else r.map fun rs => noted rs k s n

theorem noteN_zero (r : Option (List RunT)) (k s : Int) : noteN r k s 0 = r := rfl

theorem noteN_one (r : Option (List RunT)) (k s : Int) : noteN r k s 1 = r.map fun rs => noted rs k s 1 := rfl

theorem noted_concat (X : List RunT) (k' s' c k s n : Int) : noted (X ++ [(k', s', c)]) k s n = if k' = k ∧ s' = s then X ++ [(k, s, c + n)] else X ++ [(k', s', c)] ++ [(k, s, n)] := by
  unfold noted
  simp

theorem noted_noted (rs : List RunT) (k s a b : Int) : noted (noted rs k s a) k s b = noted rs k s (a + b) := by
  have key : ∀ (X : List RunT) (x : Int), noted (X ++ [(k, s, x)]) k s b = X ++ [(k, s, x + b)] := fun X x => by rw [noted_concat, if_pos ⟨rfl, rfl⟩]
  rcases List.eq_nil_or_concat rs with rfl | ⟨X, ⟨k', s', c⟩, rfl⟩
  · have := key [] a
    rw [noted_nil, noted_nil]
    simpa using this
  · rw [List.concat_eq_append, noted_concat, noted_concat]
    by_cases h : k' = k ∧ s' = s
    · rw [if_pos h, if_pos h, key, Int.add_assoc]
    · rw [if_neg h, if_neg h, key]

theorem noteN_noteN (r : Option (List RunT)) (k s : Int) (a b : Nat) : noteN (noteN r k s a) k s b = noteN r k s (a + b) := by
  unfold noteN
  by_cases ha : a = 0
  · subst ha; simp
  · by_cases hb : b = 0
    · subst hb; simp [ha]
    · rw [if_neg ha, if_neg hb, if_neg (by omega)]
      cases r with
      | none => rfl
      | some rs => simp [noted_noted]

theorem LW.noteN {r : Option (List RunT)} {m : Nat} {b : Int} (h : LW r m b) (k s : Int) (n : Nat) : LW (noteN r k s n) (m + 1) (b + n) := by
  unfold Go.Proofs.Ytcnphkmcgefjoaa.noteN
  split
  · exact h.more (by omega) (by omega)
  · rename_i hn
    intro rs hrs
    cases r with
    | none => cases hrs
    | some rs0 =>
      simp at hrs
      subst hrs
      obtain ⟨h1, h2, h3⟩ := h rs0 rfl
      refine ⟨?_, by have := noted_length rs0 k s n; omega, by rw [total_noted]; omega⟩
      have g := (Runs.Good.noted (rs := rs0) (b := total rs0) ⟨h1, Int.le_refl _⟩ k s n (by omega)).1
      exact g

section
variable {w0 w : World} {F0 : List Nat} {E : Env}

set_option maxHeartbeats 400000 in
theorem ledger_note_w {l : Value} {r : Option (List RunT)} (m : Nat) (b k s : Int) (H : St w0 F0 w E) (i : Nat) (hi : E i = some (led l r)) (hg : LW r m b) (hm : m ≤ 1000000000000) (hb : b ≤ 4611686018427387903) :
    Calls Try.prog 57 #[l, .agg #[.int .u8 k, .int .i64 s]] w fun e w' => e = .returned (.tuple #[]) ∧ St w0 F0 w' (upd E i (led l (noteN r k s 1))) := by
  rw [noteN_one]
  cases r with
  | none =>
    obtain ⟨rfl, H1⟩ := H.openFact i hi
    go_enter Try.func57, Try.ntmps57
    go_wp2_with fail
    refine (noteTimes_none k s 1).mono ?_
    rintro e w1 ⟨rfl, hb1⟩
    go_wp2
    go_end0
    have H2 := (H.call ((Below.refl _ _).alloc (Nat.le_refl _) _)).call hb1
    exact ⟨rfl, by rw [← upd_id hi] at H2; exact H2⟩
  | some rs =>
    obtain ⟨g, rfl, H1⟩ := H.ledOpen i hi
    obtain ⟨h1, hl, h2⟩ := hg rs rfl
    have h0 : ∀ r ∈ rs, 0 ≤ r.2.2 := fun r hr => by have := h1 r hr; omega
    have H2 := H1.call ((Below.refl _ _).alloc (Nat.le_refl _) (.cells #[.int .u8 k, .int .i64 s] 43))
    obtain ⟨F, HF, -, -, hback⟩ := H2.frame1 i upd_same
    have hc := noteTimes_led g rs k s 1 HF (by omega) (by omega) h0 (by omega) (by omega)
    clear hl h0 h1 h2 HF H1 H2 H
    unfold lptr at hc ⊢
    have HC := Lib.hid hc
    have HB := Lib.hid hback
    clear hc hback
    go_enter Try.func57, Try.ntmps57
    go_wp2_with fail
    refine HC.out.mono ?_
    rintro e w1 ⟨rfl, hs⟩
    go_wp2
    go_end0
    have H3 := (HB.out _ _ hs).ledShut i upd_same
    simp only [upd_upd] at H3
    exact ⟨rfl, H3⟩

set_option maxHeartbeats 400000 in
theorem ledger_runs_w {l : Value} {r : Option (List RunT)} (m : Nat) (b : Int) (H : St w0 F0 w E) (i : Nat) (hi : E i = some (led l r)) (hg : LW r m b) (hm : m ≤ 1000000000) (k : Nat) (hk : E k = Option.none) :
    Calls Try.prog 17 #[l] w fun e w' => ∃ v, e = .returned v ∧ St w0 F0 w' (upd E k (runsO v (r.getD []))) := by
  cases r with
  | none =>
    obtain ⟨rfl, H1⟩ := H.openFact i hi
    go_enter Try.func17, Try.ntmps17
    go_wp2
    go_ret
    exact ⟨_, rfl, H.nilRow k hk _ _⟩
  | some rs =>
    obtain ⟨i0, hi0, hz0, hz1, hz2⟩ := info_parts run_info
    obtain ⟨g, A, c, rfl, hlt, c0, -, hr⟩ := H.ledRead i hi
    have hl := (hg rs rfl).2.1
    unfold lptr
    go_enter Try.func17, Try.ntmps17
    go_wp2_with (at_builtin; refine wpList_append_any _ rfl (.tmp 5) (.tmp 9) _ rfl w.heap.size 45 i0 _ 3 24 Try.underlying33 hi0 hz0 hz1 hz2 rfl (by omega) (.slice (some ⟨w.heap.size, 0, none⟩) 0 0) 0 [] rfl (World.ownsRow_made _ _ 0 (Nat.le_refl _) (by simp [maxLen]) rfl) A rs.length c (runsV rs) rfl (hr.below ((Below.refl _ _).alloc (Nat.le_refl _) _)) (runsV_one rs) (by simp only [maxLen]; omega) (by omega) (by simp) ?_; intro v1 w1 hown1 hg1 hat1)
    go_ret
    refine ⟨_, rfl, H.pushRow k hk (((Below.refl _ _).alloc (Nat.le_refl _) _).grown hg1 (by simp) (fun g hg => by simp [Value.ownBlock] at hg; omega)) ?_⟩
    have h := hown1
    rw [Nat.zero_add, List.nil_append] at h
    exact h

/-- how many events a ledger has -/
theorem ledger_len_w {l : Value} {rs : List RunT} (H : St w0 F0 w E) (i : Nat) (hi : E i = some (led l (some rs))) :
    Calls Try.prog 24 #[l] w fun e w' => e = .returned (.int .i64 (total rs)) ∧ w = w' := by
  obtain ⟨g, A, c, rfl, hlt, -, c1, -⟩ := H.ledRead i hi
  unfold lptr
  generalize total rs = t at c1 ⊢
  go_enter Try.func24, Try.ntmps24
  go_wp2
  go_ret
  exact ⟨rfl, rfl⟩

end

end Go.Proofs.Ytcnphkmcgefjoaa
