/- Owned pieces of memory, apart from one another: what a walk knows of its world. Nothing here speaks of the program. -/
import Derived.Test.YtenmlkgamlafpaaDoorLib
import Derived.Deep.MidRow
namespace Go.Proofs.YtenmlkgamlafpaaDoor
open Go.RowKit
set_option linter.unusedVariables false

/-- A piece of memory: what holds of a world and of the blocks that are its own. -/
structure Own where
  holds : World → List Nat → Prop
  loc : ∀ {w w' : World} {F : List Nat}, holds w F → (∀ g ∈ F, w'.heap[g]? = w.heap[g]?) → holds w' F
  old : ∀ {w : World} {F : List Nat}, holds w F → ∀ g ∈ F, g < w.heap.size

theorem lt_of_heap {w : World} {g : Nat} {o : Obj} (h : w.heap[g]? = some o) : g < w.heap.size := (Array.getElem?_eq_some_iff.1 h).1

/-- A block known whole. -/
def Own.blk (g : Nat) (T : TypeId) (cs : List Value) : Own where
  holds w F := w.heap[g]? = some (.cells cs.toArray T (0, 0)) ∧ F = [g]
  loc := fun ⟨h, e⟩ k => ⟨by rw [k g (by simp [e])]; exact h, e⟩
  old := fun ⟨h, e⟩ k hk => by rw [e] at hk; simp at hk; subst hk; exact lt_of_heap h

theorem ownsRow_loc {w w' : World} {base : Nat} {e : TypeId} {size n : Nat} {v : Value} {xs : List Value} (h : w.ownsRow base e size v n xs) (k : ∀ g ∈ v.ownBlock.toList, w'.heap[g]? = w.heap[g]?) : w'.ownsRow base e size v n xs := by
  refine ⟨h.1, ?_⟩
  rcases h.2 with hn | ⟨g, cap, cur, rfl, hb, hg, rest⟩
  · exact .inl hn
  · exact .inr ⟨g, cap, cur, rfl, hb, by rw [k g (by simp [Value.ownBlock])]; exact hg, rest⟩
theorem ownsRow_base {w : World} {base base' : Nat} {e : TypeId} {size n : Nat} {v : Value} {xs : List Value} (h : w.ownsRow base e size v n xs) (k : ∀ g ∈ v.ownBlock.toList, base' ≤ g) : w.ownsRow base' e size v n xs := by
  refine ⟨h.1, ?_⟩
  rcases h.2 with hn | ⟨g, cap, cur, rfl, hb, rest⟩
  · exact .inl hn
  · exact .inr ⟨g, cap, cur, rfl, k g (by simp [Value.ownBlock]), rest⟩

/-- A slice of one's own: nil, or the beginning of a block. -/
def Own.row (e : TypeId) (size : Nat) (v : Value) (n : Nat) (xs : List Value) : Own where
  holds w F := w.ownsRow 0 e size v n xs ∧ F = v.ownBlock.toList
  loc := fun ⟨h, e⟩ k => ⟨ownsRow_loc h (by rw [← e]; exact k), e⟩
  old := fun ⟨h, e⟩ k hk => by
    rw [e] at hk
    cases hv : v.ownBlock with
    | none => rw [hv] at hk; simp at hk
    | some g => rw [hv] at hk; simp at hk; subst hk; exact (World.ownsRow.lt h _ hv).2

def Own.emp : Own where
  holds _ F := F = []
  loc := fun h _ => h
  old := fun h k hk => by rw [h] at hk; simp at hk

def Own.sep (A B : Own) : Own where
  holds w F := ∃ G H, F = G ++ H ∧ A.holds w G ∧ B.holds w H ∧ ∀ g ∈ G, g ∉ H
  loc := fun ⟨G, H, e, a, b, d⟩ k => ⟨G, H, e, A.loc a fun g hg => k g (by simp [e, hg]), B.loc b fun g hg => k g (by simp [e, hg]), d⟩
  old := fun ⟨G, H, e, a, b, _⟩ g hg => by rw [e, List.mem_append] at hg; exact hg.elim (A.old a g) (B.old b g)

def Own.ex {α : Type} (A : α → Own) : Own where
  holds w F := ∃ a, (A a).holds w F
  loc := fun ⟨a, h⟩ k => ⟨a, (A a).loc h k⟩
  old := fun ⟨a, h⟩ => (A a).old h

def Own.fact (p : Prop) (A : Own) : Own where
  holds w F := p ∧ A.holds w F
  loc := fun ⟨a, h⟩ k => ⟨a, A.loc h k⟩
  old := fun ⟨_, h⟩ => A.old h

/-- What was there, but for the blocks F0, is as it was. -/
structure Low (w0 : World) (F0 : List Nat) (w : World) : Prop where
  os : w.os = w0.os
  tape : w.tape = w0.tape
  output : w.output = w0.output
  size : w0.heap.size ≤ w.heap.size
  block : ∀ k, k < w0.heap.size → k ∉ F0 → w.heap[k]? = w0.heap[k]?

theorem Low.refl (w : World) (F : List Nat) : Low w F w := ⟨rfl, rfl, rfl, Nat.le_refl _, fun _ _ _ => rfl⟩
theorem Low.trans {a b c : World} {F G : List Nat} (h : Low a F b) (k : Low b G c) (hG : ∀ g ∈ G, g ∈ F ∨ a.heap.size ≤ g) : Low a F c :=
  ⟨k.os.trans h.os, k.tape.trans h.tape, k.output.trans h.output, Nat.le_trans h.size k.size, fun i hi hn => (k.block i (Nat.lt_of_lt_of_le hi h.size) fun m => by
    rcases hG i m with e | e
    · exact hn e
    · omega).trans (h.block i hi hn)⟩
theorem Low.of_below {w w' : World} (h : Below w.heap.size w w') (F : List Nat) : Low w F w' := ⟨h.os, h.tape, h.output, h.size, fun k hk _ => h.block k hk⟩
theorem Low.below {w w' : World} (h : Low w [] w') : Below w.heap.size w w' := ⟨h.os, h.tape, h.output, h.size, fun k hk => h.block k hk (by simp)⟩
theorem Low.of_grown {w w' : World} {row : Option Nat} (h : w.grownBy w' row) : Low w row.toList w' := ⟨h.os, h.tape, h.output, h.size, fun k hk hn => h.block k hk (by cases row <;> simp_all)⟩
theorem Low.setCell (w : World) (a : Addr) (u : Value) : Low w [a.block] (w.setCell a u) := ⟨rfl, rfl, rfl, by simp [World.setCell], fun k _ hn => Below.heap_setCell _ _ _ _ (by simpa using hn)⟩
theorem Low.alloc (w : World) (o : Obj) (F : List Nat) : Low w F (w.alloc o) := .of_below ((Below.refl _ _).alloc (Nat.le_refl _) o) F
theorem Low.more {a b : World} {F G : List Nat} (h : Low a F b) (hG : ∀ g ∈ F, g ∈ G) : Low a G b := ⟨h.os, h.tape, h.output, h.size, fun k hk hn => h.block k hk fun m => hn (hG k m)⟩

abbrev Env := Nat → Option Own
def Env.nil : Env := fun _ => none
def upd (E : Env) (k : Nat) (A : Own) : Env := fun i => if i = k then some A else E i
def del (E : Env) (k : Nat) : Env := fun i => if i = k then none else E i

theorem upd_same {E : Env} {k : Nat} {A : Own} : upd E k A k = some A := by simp [upd]
theorem upd_upd {E : Env} {k : Nat} {A B : Own} : upd (upd E k A) k B = upd E k B := by funext i; by_cases h : i = k <;> simp [upd, h]
theorem upd_id {E : Env} {k : Nat} {A : Own} (h : E k = some A) : upd E k A = E := by funext i; by_cases hi : i = k <;> simp [upd, hi, h]
/-- The state of a walk that began at w0 with the blocks F0 as its own: the pieces of E, apart from one another, all else as it was. -/
structure St (w0 : World) (F0 : List Nat) (w : World) (E : Env) : Prop where
  low : Low w0 F0 w
  own : ∃ Fs : Nat → List Nat, (∀ i A, E i = some A → A.holds w (Fs i) ∧ ∀ g ∈ Fs i, g ∈ F0 ∨ w0.heap.size ≤ g) ∧ ∀ i j A B, i ≠ j → E i = some A → E j = some B → ∀ g ∈ Fs i, g ∉ Fs j

section
variable {w0 w w' : World} {F0 : List Nat} {E : Env}

theorem St.start (w : World) (F : List Nat) : St w F w Env.nil := ⟨Low.refl _ _, fun _ => [], ⟨fun _ _ h => (by cases h), fun _ _ _ _ _ h => (by cases h)⟩⟩

/-- One piece is looked at, and may be exchanged for what has become of it. -/
theorem St.change {A : Own} (H : St w0 F0 w E) (k : Nat) (hk : E k = some A) :
    ∃ F, A.holds w F ∧ (∀ g ∈ F, g ∈ F0 ∨ w0.heap.size ≤ g) ∧ (∀ j B, j ≠ k → E j = some B → ∃ G, B.holds w G ∧ ∀ g ∈ G, g ∉ F) ∧
      ∀ (w' : World) (A' : Own) (F' : List Nat), A'.holds w' F' → Low w F w' → (∀ g ∈ F', g ∈ F ∨ w.heap.size ≤ g) → St w0 F0 w' (upd E k A') := by
  obtain ⟨lo, Fs, h1, h2⟩ := H
  refine ⟨Fs k, (h1 k A hk).1, (h1 k A hk).2, fun j B hj hB => ⟨Fs j, (h1 j B hB).1, h2 j k B A hj hB hk⟩, fun w' A' F' hA' hl hF' => ?_⟩
  have hold : ∀ i B, E i = some B → ∀ g ∈ Fs i, g < w.heap.size := fun i B hB => B.old (h1 i B hB).1
  refine ⟨lo.trans hl (h1 k A hk).2, fun i => if i = k then F' else Fs i, fun i B hB => ?_, fun i j B C hij hB hC g hg => ?_⟩
  · by_cases hi : i = k
    · subst hi
      simp only [upd, if_true, Option.some.injEq] at hB
      subst hB
      simp only [if_true]
      refine ⟨hA', fun g hg => ?_⟩
      rcases hF' g hg with h | h
      · exact (h1 i A hk).2 g h
      · exact .inr (Nat.le_trans lo.size h)
    · simp only [upd, if_neg hi] at hB
      simp only [if_neg hi]
      refine ⟨B.loc (h1 i B hB).1 fun g hg => hl.block g (hold i B hB g hg) (h2 i k B A hi hB hk g hg), (h1 i B hB).2⟩
  · by_cases hi : i = k
    · subst hi
      have hj : j ≠ i := fun e => hij e.symm
      simp only [upd, if_neg hj] at hC
      simp only [if_true] at hg
      simp only [if_neg hj]
      rcases hF' g hg with h | h
      · exact h2 i j A C hij hk hC g h
      · exact fun m => by have := hold j C hC g m; omega
    · simp only [upd, if_neg hi] at hB
      simp only [if_neg hi] at hg
      by_cases hj : j = k
      · subst hj
        simp only [if_true]
        intro m
        rcases hF' g m with h | h
        · exact h2 i j B A hij hB hk g hg h
        · have := hold i B hB g hg; omega
      · simp only [upd, if_neg hj] at hC
        simp only [if_neg hj]
        exact h2 i j B C hij hB hC g hg

theorem St.call (H : St w0 F0 w E) (hb : Below w.heap.size w w') : St w0 F0 w' E := by
  obtain ⟨lo, Fs, h1, h2⟩ := H
  exact ⟨lo.trans (.of_below hb []) (by simp), Fs, fun i B hB => ⟨B.loc (h1 i B hB).1 fun g hg => hb.block g (B.old (h1 i B hB).1 g hg), (h1 i B hB).2⟩, h2⟩
theorem St.drewN (H : St w0 F0 w E) (n : Nat) : St w0 F0 (w.drewN n) E := H.call (bdrewN (Below.refl _ _) n)
theorem St.drew (H : St w0 F0 w E) : St w0 F0 w.drew E := H.call (Below.refl _ _).drew

theorem St.push {A : Own} {F : List Nat} (H : St w0 F0 w E) (k : Nat) (hk : E k = none) (hb : Below w.heap.size w w') (hA : A.holds w' F) (hF : ∀ g ∈ F, w.heap.size ≤ g) : St w0 F0 w' (upd E k A) := by
  obtain ⟨lo, Fs, h1, h2⟩ := H
  have hold : ∀ i B, E i = some B → ∀ g ∈ Fs i, g < w.heap.size := fun i B hB => B.old (h1 i B hB).1
  have hne : ∀ i B, E i = some B → i ≠ k := fun i B hB e => by subst e; rw [hk] at hB; cases hB
  refine ⟨lo.trans (.of_below hb []) (by simp), fun i => if i = k then F else Fs i, fun i B hB => ?_, fun i j B C hij hB hC g hg => ?_⟩
  · by_cases hi : i = k
    · subst hi
      simp only [upd, if_true, Option.some.injEq] at hB
      subst hB
      simp only [if_true]
      exact ⟨hA, fun g hg => .inr (Nat.le_trans lo.size (hF g hg))⟩
    · simp only [upd, if_neg hi] at hB
      simp only [if_neg hi]
      exact ⟨B.loc (h1 i B hB).1 fun g hg => hb.block g (hold i B hB g hg), (h1 i B hB).2⟩
  · by_cases hi : i = k
    · subst hi
      have hj : j ≠ i := fun e => hij e.symm
      simp only [upd, if_neg hj] at hC
      simp only [if_true] at hg
      simp only [if_neg hj]
      exact fun m => by have := hold j C hC g m; have := hF g hg; omega
    · simp only [upd, if_neg hi] at hB
      simp only [if_neg hi] at hg
      by_cases hj : j = k
      · subst hj
        simp only [if_true]
        exact fun m => by have := hold i B hB g hg; have := hF g m; omega
      · simp only [upd, if_neg hj] at hC
        simp only [if_neg hj]
        exact h2 i j B C hij hB hC g hg

/-- fewer pieces are known of -/
theorem St.sub {E' : Env} (H : St w0 F0 w E) (h : ∀ k A, E' k = some A → E k = some A) : St w0 F0 w E' := by
  obtain ⟨lo, Fs, h1, h2⟩ := H
  exact ⟨lo, Fs, fun i A hA => h1 i A (h i A hA), fun i j A B hij hA hB => h2 i j A B hij (h i A hA) (h j B hB)⟩
theorem St.env {E' : Env} (H : St w0 F0 w E) (h : ∀ k, E' k = E k) : St w0 F0 w E' := H.sub fun k A hA => by rw [← h k]; exact hA
theorem St.below {E : Env} (H : St w0 [] w E) : Below w0.heap.size w0 w := H.low.below

/- blocks -/
theorem St.blk {g : Nat} {T : TypeId} {cs : List Value} (H : St w0 F0 w E) (k : Nat) (hk : E k = some (.blk g T cs)) : w.heap[g]? = some (.cells cs.toArray T (0, 0)) := by
  obtain ⟨F, h, -⟩ := H.change k hk
  exact h.1
theorem St.blkIn {g : Nat} {T : TypeId} {cs : List Value} (H : St w0 F0 w E) (k : Nat) (hk : E k = some (.blk g T cs)) : g ∈ F0 ∨ w0.heap.size ≤ g := by
  obtain ⟨F, ⟨-, e⟩, h, -⟩ := H.change k hk
  exact h g (by simp [e])
theorem St.cell {g o : Nat} {T : TypeId} {cs : List Value} {u : Value} (H : St w0 F0 w E) (k : Nat) (hk : E k = some (.blk g T cs)) (hu : cs[o]? = some u) : w.cell? ⟨g, o, none⟩ = some u := by
  rw [cell_of_row w g o _ _ _ (H.blk k hk)]; simpa using hu
theorem St.free {g : Nat} {T : TypeId} {cs : List Value} (H : St w0 F0 w E) (k : Nat) (hk : E k = some (.blk g T cs)) (o : Nat) : w.frozen? ⟨g, o, none⟩ = false := frozen_of_row w g o _ _ (H.blk k hk)
theorem St.lt {g : Nat} {T : TypeId} {cs : List Value} (H : St w0 F0 w E) (k : Nat) (hk : E k = some (.blk g T cs)) : g < w.heap.size := lt_of_heap (H.blk k hk)
theorem St.store {g o : Nat} {T : TypeId} {cs : List Value} {u : Value} (H : St w0 F0 w E) (k : Nat) (hk : E k = some (.blk g T cs)) : St w0 F0 (w.setCell ⟨g, o, none⟩ u) (upd E k (.blk g T (cs.set o u))) := by
  obtain ⟨F, ⟨h, e⟩, -, -, hc⟩ := H.change k hk
  subst e
  refine hc _ _ [g] ⟨?_, rfl⟩ (Low.setCell w ⟨g, o, none⟩ u) (by simp)
  simp only [World.setCell, Array.getElem?_modify, if_true, h]
  simp
theorem St.alloc (H : St w0 F0 w E) (k : Nat) (hk : E k = none) (cs : Array Value) (T : TypeId) : St w0 F0 (w.alloc (.cells cs T)) (upd E k (.blk w.heap.size T cs.toList)) :=
  H.push k hk ((Below.refl _ _).alloc (Nat.le_refl _) _) (F := [w.heap.size]) ⟨by rw [heap_alloc_new], rfl⟩ (by simp)
theorem St.allocAt (H : St w0 F0 w E) (k : Nat) (hk : E k = none) (b : Nat) (hb : b = w.heap.size) (cs : Array Value) (T : TypeId) : St w0 F0 (w.alloc (.cells cs T)) (upd E k (.blk b T cs.toList)) := by
  subst hb; exact H.alloc k hk cs T
theorem St.ne {g g' : Nat} {T T' : TypeId} {cs cs' : List Value} (H : St w0 F0 w E) (k k' : Nat) (hk : E k = some (.blk g T cs)) (hk' : E k' = some (.blk g' T' cs')) (hne : k ≠ k') : g ≠ g' := by
  obtain ⟨F, ⟨-, e⟩, -, hd, -⟩ := H.change k hk
  obtain ⟨G, ⟨-, e'⟩, hd'⟩ := hd k' _ (fun e => hne e.symm) hk'
  subst e e'
  intro h
  exact hd' g' (by simp) (by simp [h])

/- rows -/
variable {e : TypeId} {size n : Nat} {v : Value} {xs : List Value}
theorem St.row (H : St w0 F0 w E) (k : Nat) (hk : E k = some (.row e size v n xs)) : w.ownsRow 0 e size v n xs := by
  obtain ⟨F, h, -⟩ := H.change k hk
  exact h.1
theorem St.rd {A : Option Addr} {c : Nat} (H : St w0 F0 w E) (k : Nat) (hk : E k = some (.row e size (.slice A n c) n xs)) : Rd w size A n xs := Rd.of_own (H.row k hk)
/-- a slice that is read only, and is none of the own ones -/
def RdF (w : World) (F : List Nat) (size : Nat) (A : Option Addr) (n : Nat) (xs : List Value) : Prop := Rd w size A n xs ∧ (0 < n → ∀ ad, A = some ad → ad.block ∉ F)
theorem Rd.rdF {A : Option Addr} (h : Rd w size A n xs) : RdF w [] size A n xs := ⟨h, fun _ _ _ => by simp⟩
theorem RdF.keep {A : Option Addr} {F : List Nat} (h : RdF w0 F size A n xs) (lo : Low w0 F w) : RdF w F size A n xs := by
  refine ⟨⟨h.1.1, fun hn => ?_⟩, h.2⟩
  obtain ⟨ad, rfl, hb, hc⟩ := h.1.2 hn
  refine ⟨ad, rfl, Nat.lt_of_lt_of_le hb lo.size, fun j u hu => ?_⟩
  rw [← hc j u hu]
  exact World.cell?_of_block (lo.block _ (by rw [block_of_add]; exact hb) (by rw [block_of_add]; exact h.2 hn ad rfl))
theorem St.arg {A : Option Addr} (H : St w0 F0 w E) (h : RdF w0 F0 size A n xs) : Rd w size A n xs := (h.keep H.low).1
theorem St.arg0 {A : Option Addr} {E : Env} (H : St w0 [] w E) (h : Rd w0 size A n xs) : Rd w size A n xs := (h.rdF.keep H.low).1

theorem St.pushRow (H : St w0 F0 w E) (k : Nat) (hk : E k = none) (hb : Below w.heap.size w w') (ho : w'.ownsRow w.heap.size e size v n xs) : St w0 F0 w' (upd E k (.row e size v n xs)) :=
  H.push k hk hb (A := .row e size v n xs) ⟨ownsRow_base ho (by simp), rfl⟩ (fun g hg => by
    cases hv : v.ownBlock with
    | none => rw [hv] at hg; simp at hg
    | some g' => rw [hv] at hg; simp at hg; subst hg; exact (World.ownsRow.lt ho _ hv).1)
theorem St.nilRow (H : St w0 F0 w E) (k : Nat) (hk : E k = none) (e : TypeId) (size : Nat) : St w0 F0 w (upd E k (.row e size (.slice none 0 0) 0 [])) :=
  H.pushRow k hk (Below.refl _ _) (World.ownsRow_nil _ _ _ _)
/-- an append (or another law that ends in grownBy) has made of the row another one -/
theorem St.grow {v' : Value} {n' : Nat} {xs' : List Value} (H : St w0 F0 w E) (k : Nat) (hk : E k = some (.row e size v n xs)) (ho : w'.ownsRow 0 e size v' n' xs') (hg : w.grownBy w' v.ownBlock)
    (hat : v'.ownBlock = v.ownBlock ∨ v'.ownBlock = some w.heap.size) : St w0 F0 w' (upd E k (.row e size v' n' xs')) := by
  obtain ⟨F, ⟨h, eF⟩, -, -, hc⟩ := H.change k hk
  subst eF
  refine hc _ _ v'.ownBlock.toList ⟨ho, rfl⟩ (Low.of_grown hg) (fun g hm => ?_)
  rcases hat with h1 | h1
  · rw [h1] at hm; exact .inl hm
  · rw [h1] at hm; simp at hm; subst hm; exact .inr (Nat.le_refl _)
theorem St.rowStore {g c o : Nat} {u : Value} (H : St w0 F0 w E) (k : Nat) (hk : E k = some (.row e size (.slice (some ⟨g, 0, none⟩) n c) n xs)) : St w0 F0 (w.setCell ⟨g, o, none⟩ u) (upd E k (.row e size (.slice (some ⟨g, 0, none⟩) n c) n (xs.set o u))) := by
  have hs := World.ownsRow.stored (H.row k hk) o u
  exact H.grow k hk hs.1 hs.2 (.inl rfl)

/-- Two pieces become one. -/
theorem St.join {A B : Own} (H : St w0 F0 w E) (i j : Nat) (hij : i ≠ j) (hi : E i = some A) (hj : E j = some B) : St w0 F0 w (upd (del E j) i (.sep A B)) := by
  obtain ⟨lo, Fs, h1, h2⟩ := H
  refine ⟨lo, fun m => if m = i then Fs i ++ Fs j else Fs m, fun m C hC => ?_, fun m l C D hml hC hD g hg => ?_⟩
  · by_cases hm : m = i
    · subst hm
      simp only [upd, if_true, Option.some.injEq] at hC
      subst hC
      simp only [if_true]
      exact ⟨⟨Fs m, Fs j, rfl, (h1 m A hi).1, (h1 j B hj).1, h2 m j A B hij hi hj⟩, fun g hg => by
        rw [List.mem_append] at hg; exact hg.elim ((h1 m A hi).2 g) ((h1 j B hj).2 g)⟩
    · have hmj : m ≠ j := fun e => by subst e; simp [upd, del, hm] at hC
      simp only [upd, del, if_neg hm, if_neg hmj] at hC
      simp only [if_neg hm]
      exact h1 m C hC
  · by_cases hm : m = i
    · have hl : l ≠ i := fun e => hml (hm.trans e.symm)
      have hlj : l ≠ j := fun e => by subst e; simp [upd, del, hl] at hD
      simp only [upd, del, if_neg hl, if_neg hlj] at hD
      subst hm
      simp only [if_true, List.mem_append] at hg
      simp only [if_neg hl]
      exact hg.elim (h2 m l A D (fun e => hl e.symm) hi hD g) (h2 j l B D (fun e => hlj e.symm) hj hD g)
    · have hmj : m ≠ j := fun e => by subst e; simp [upd, del, hm] at hC
      simp only [upd, del, if_neg hm, if_neg hmj] at hC
      simp only [if_neg hm] at hg
      by_cases hl : l = i
      · subst hl
        simp only [if_true, List.mem_append]
        exact fun h => h.elim (h2 m l C A hm hC hi g hg) (h2 m j C B hmj hC hj g hg)
      · have hlj : l ≠ j := fun e => by subst e; simp [upd, del, hl] at hD
        simp only [upd, del, if_neg hl, if_neg hlj] at hD
        simp only [if_neg hl]
        exact h2 m l C D hml hC hD g hg
/-- One piece that is two. -/
theorem St.part {A B : Own} (H : St w0 F0 w E) (i j : Nat) (hij : i ≠ j) (hi : E i = some (.sep A B)) (hj : E j = none) : St w0 F0 w (upd (upd E i A) j B) := by
  obtain ⟨lo, Fs, h1, h2⟩ := H
  obtain ⟨⟨G, K, eF, ha, hb, hd⟩, hlo⟩ := h1 i _ hi
  have hG : ∀ g ∈ G, g ∈ Fs i := fun g h => by rw [eF]; simp [h]
  have hK : ∀ g ∈ K, g ∈ Fs i := fun g h => by rw [eF]; simp [h]
  refine ⟨lo, fun m => if m = j then K else if m = i then G else Fs m, fun m C hC => ?_, fun m l C D hml hC hD g hg => ?_⟩
  · by_cases hmj : m = j
    · subst hmj
      simp only [upd, if_true, Option.some.injEq] at hC
      subst hC
      simp only [if_true]
      exact ⟨hb, fun g hg => hlo g (hK g hg)⟩
    · by_cases hmi : m = i
      · subst hmi
        simp only [upd, if_neg hmj, if_true, Option.some.injEq] at hC
        subst hC
        simp only [if_neg hmj, if_true]
        exact ⟨ha, fun g hg => hlo g (hG g hg)⟩
      · simp only [upd, if_neg hmj, if_neg hmi] at hC
        simp only [if_neg hmj, if_neg hmi]
        exact h1 m C hC
  · have key : ∀ m C, m ≠ j → m ≠ i → upd (upd E i A) j B m = some C → E m = some C := fun m C h h' hC => by simpa only [upd, if_neg h, if_neg h'] using hC
    by_cases hmj : m = j
    · have hlj : l ≠ j := fun e => hml (hmj.trans e.symm)
      simp only [hmj, if_true] at hg
      simp only [if_neg hlj]
      by_cases hli : l = i
      · simp only [hli, if_true]; exact fun h => hd g h hg
      · simp only [if_neg hli]; exact h2 i l _ D (fun e => hli e.symm) hi (key l D hlj hli hD) g (hK g hg)
    · by_cases hmi : m = i
      · have hli : l ≠ i := fun e => hml (hmi.trans e.symm)
        simp only [hmi, if_neg hij, if_true] at hg
        by_cases hlj : l = j
        · simp only [hlj, if_true]; exact hd g hg
        · simp only [if_neg hlj, if_neg hli]; exact h2 i l _ D (fun e => hli e.symm) hi (key l D hlj hli hD) g (hG g hg)
      · simp only [if_neg hmj, if_neg hmi] at hg
        have hCm := key m C hmj hmi hC
        by_cases hlj : l = j
        · simp only [hlj, if_true]; exact fun h => h2 m i C _ hmi hCm hi g hg (hK g h)
        · by_cases hli : l = i
          · show g ∉ (if l = j then K else if l = i then G else Fs l); rw [if_neg hlj, if_pos hli]; exact fun h => h2 m i C _ hmi hCm hi g hg (hG g h)
          · simp only [if_neg hlj, if_neg hli]; exact h2 m l C D hml hCm (key l D hlj hli hD) g hg
theorem rd_new (w : World) (us : List Value) (t : TypeId) (size : Nat) (h : us.length = size) : Rd ((w.alloc (.cells us.toArray t)).drew) size (some ⟨w.heap.size, 0, none⟩) 1 us :=
  ⟨by omega, fun _ => ⟨_, rfl, by simp, fun j u hu => by
    rw [Addr.add_mid, Nat.zero_add]
    show (w.alloc (.cells us.toArray t)).cell? _ = _
    rw [World.cell?_alloc_at _ _ _ _ rfl]; simpa using hu⟩⟩
theorem Rd.flat {w : World} {size n : Nat} {A : Option Addr} {xs : List Value} (h : Rd w size A n xs) (hn : 0 < n) (hs : 0 < size) : ∃ b o, A = some ⟨b, o, none⟩ ∧ b < w.heap.size ∧ ∀ j u, xs[j]? = some u → w.cell? ⟨b, o + j, none⟩ = some u := by
  obtain ⟨ad, rfl, hb, hc⟩ := h.2 hn
  have hl : 0 < xs.length := by rw [h.1]; exact Nat.mul_pos hn hs
  have h0 := hc 0 _ (List.getElem?_eq_getElem hl)
  obtain ⟨b, o, sp⟩ := ad
  cases sp with
  | some s => simp [Addr.add, World.cell?] at h0; split at h0 <;> simp at h0
  | none => exact ⟨b, o, rfl, hb, fun j u hu => by rw [← hc j u hu, Addr.add_mid]⟩
/- a walk of its own over one piece, or two -/
def one (A : Own) : Env := upd Env.nil 0 A
def two (A B : Own) : Env := upd (upd Env.nil 0 A) 1 B
theorem St.out {A : Own} {F : List Nat} (H : St w F w' E) (k : Nat) (hk : E k = some A) : ∃ F', A.holds w' F' ∧ Low w F w' ∧ ∀ g ∈ F', g ∈ F ∨ w.heap.size ≤ g := by
  obtain ⟨F', h1, h2, -⟩ := H.change k hk
  exact ⟨F', h1, H.low, h2⟩
theorem St.in1 {A : Own} {F : List Nat} (h : A.holds w F) : St w F w (one A) := by
  refine ⟨Low.refl _ _, fun _ => F, ⟨fun i B hB => ?_, fun i j B C hij hB hC => ?_⟩⟩
  · by_cases hi : i = 0
    · subst hi; simp [one, upd] at hB; subst hB; exact ⟨h, fun g hg => .inl hg⟩
    · simp [one, upd, hi, Env.nil] at hB
  · have h1 : i = 0 := by
      apply Classical.byContradiction; intro hi; simp [one, upd, hi, Env.nil] at hB
    have h2 : j = 0 := by
      apply Classical.byContradiction; intro hj; simp [one, upd, hj, Env.nil] at hC
    omega
theorem St.frame1 {A : Own} (H : St w0 F0 w E) (i : Nat) (hi : E i = some A) :
    ∃ F, St w F w (one A) ∧ (∀ (size : Nat) (A : Option Addr) (n : Nat) (xs : List Value), RdF w F0 size A n xs → (∀ ad, A = some ad → ad.block < w0.heap.size) → RdF w F size A n xs) ∧
      (∀ j B, j ≠ i → E j = some B → ∃ G, B.holds w G ∧ ∀ g ∈ G, g ∉ F) ∧ ∀ (w' : World) (A' : Own), St w F w' (one A') → St w0 F0 w' (upd E i A') := by
  obtain ⟨F, h1, h2, h3, h4⟩ := H.change i hi
  refine ⟨F, St.in1 h1, fun size A n xs hr hlt => ⟨hr.1, fun hn ad e m => ?_⟩, h3, fun w' A' H' => ?_⟩
  · rcases h2 _ m with h | h
    · exact hr.2 hn ad e h
    · have := hlt ad e; omega
  · obtain ⟨F', a, b, c⟩ := H'.out 0 rfl
    exact h4 w' A' F' a b c
theorem St.frame2 {A B : Own} (H : St w0 F0 w E) (i j : Nat) (hij : i ≠ j) (hi : E i = some A) (hj : E j = some B) :
    ∃ F, St w F w (two A B) ∧ (∀ (size : Nat) (A : Option Addr) (n : Nat) (xs : List Value), RdF w F0 size A n xs → (∀ ad, A = some ad → ad.block < w0.heap.size) → RdF w F size A n xs) ∧
      (∀ k C, k ≠ i → k ≠ j → E k = some C → ∃ G, C.holds w G ∧ ∀ g ∈ G, g ∉ F) ∧ ∀ (w' : World) (A' B' : Own), St w F w' (two A' B') → St w0 F0 w' (upd (upd E i A') j B') := by
  obtain ⟨F, H1, h2, h3, h4⟩ := (H.join i j hij hi hj).frame1 (A := .sep A B) i (by simp [upd])
  have hne : j ≠ i := fun e => hij e.symm
  refine ⟨F, ((H1.part 0 1 (by omega) rfl rfl).env fun k => ?_), h2, fun k C hki hkj hC => h3 k C hki (by simp only [upd, del, if_neg hki, if_neg hkj]; exact hC), fun w' A' B' H' => ?_⟩
  · simp only [two, one, upd]; split <;> (try split) <;> rfl
  · have H2 := h4 w' (.sep A' B') ((H'.join 0 1 (by omega) rfl rfl).env fun k => by
      simp only [two, one, upd, del, Env.nil]
      by_cases h0 : k = 0
      · simp [h0]
      · by_cases h1 : k = 1
        · simp [h1]
        · simp [h0, h1])
    refine (H2.part (A := A') (B := B') i j hij (by simp [upd]) (by simp [upd, del, hne])).env fun k => ?_
    simp only [upd, del]
    by_cases hk : k = j
    · simp [hk]
    · by_cases hk' : k = i <;> simp [hk, hk']
theorem St.openEx {α : Type} {A : α → Own} (H : St w0 F0 w E) (i : Nat) (hi : E i = some (.ex A)) : ∃ a, St w0 F0 w (upd E i (A a)) := by
  obtain ⟨F, ⟨a, h⟩, -, -, h4⟩ := H.change i hi
  exact ⟨a, h4 w (A a) F h (Low.refl _ _) fun g hg => .inl hg⟩
theorem St.shutEx {α : Type} {A : α → Own} (a : α) (H : St w0 F0 w E) (i : Nat) (hi : E i = some (A a)) : St w0 F0 w (upd E i (.ex A)) := by
  obtain ⟨F, h, -, -, h4⟩ := H.change i hi
  exact h4 w (.ex A) F ⟨a, h⟩ (Low.refl _ _) fun g hg => .inl hg
theorem St.openFact {p : Prop} {A : Own} (H : St w0 F0 w E) (i : Nat) (hi : E i = some (.fact p A)) : p ∧ St w0 F0 w (upd E i A) := by
  obtain ⟨F, ⟨a, h⟩, -, -, h4⟩ := H.change i hi
  exact ⟨a, h4 w A F h (Low.refl _ _) fun g hg => .inl hg⟩
theorem St.shutFact {p : Prop} {A : Own} (a : p) (H : St w0 F0 w E) (i : Nat) (hi : E i = some A) : St w0 F0 w (upd E i (.fact p A)) := by
  obtain ⟨F, h, -, -, h4⟩ := H.change i hi
  exact h4 w (.fact p A) F ⟨a, h⟩ (Low.refl _ _) fun g hg => .inl hg
theorem St.nothing (H : St w0 F0 w E) (k : Nat) (hk : E k = none) : St w0 F0 w (upd E k .emp) := H.push k hk (Below.refl _ _) (A := .emp) rfl (by simp)
/-- pieces by their places in a list -/
def lay (L : List Own) : Env := fun i => L[i]?
theorem St.upd_mk {L : List Own} {k : Nat} {A : Own} (H : St w0 F0 w (upd (lay L) k A)) (h : k < L.length) : St w0 F0 w (lay (L.set k A)) :=
  H.env fun i => by
    simp only [lay, upd]
    by_cases hi : i = k
    · subst hi; simp [h]
    · rw [List.getElem?_set_ne (fun e => hi e.symm), if_neg hi]
theorem St.push_mk {L : List Own} {k : Nat} {A : Own} (H : St w0 F0 w (upd (lay L) k A)) (h : k = L.length) : St w0 F0 w (lay (L ++ [A])) :=
  H.env fun i => by
    subst h
    simp only [lay, upd]
    by_cases hi : i = L.length
    · subst hi; simp
    · rw [if_neg hi]
      rcases Nat.lt_or_ge i L.length with h1 | h1
      · rw [List.getElem?_append_left h1]
      · rw [List.getElem?_eq_none (by simp; omega), List.getElem?_eq_none h1]
theorem St.as1 {A : Own} (H : St w0 F0 w (one A)) : St w0 F0 w (lay [A]) := H.env fun i => by
  cases i with
  | zero => rfl
  | succ i => simp [lay, one, upd, Env.nil]
theorem St.as2 {A B : Own} (H : St w0 F0 w (two A B)) : St w0 F0 w (lay [A, B]) := H.env fun i => by
  match i with
  | 0 => rfl
  | 1 => rfl
  | i + 2 => simp [lay, two, upd, Env.nil]
theorem St.to1 {L : List Own} {A : Own} (H : St w0 F0 w (lay L)) (h : L[0]? = some A) : St w0 F0 w (one A) := H.sub fun k B hB => by
  by_cases hk : k = 0
  · subst hk; simp only [one, upd, if_true] at hB; rw [← hB]; exact h
  · simp [one, upd, hk, Env.nil] at hB
theorem St.to2 {L : List Own} {A B : Own} (H : St w0 F0 w (lay L)) (h : L[0]? = some A) (h' : L[1]? = some B) : St w0 F0 w (two A B) := H.sub fun k C hC => by
  match k with
  | 0 => rw [show two A B 0 = some A from rfl] at hC; rw [← hC]; exact h
  | 1 => rw [show two A B 1 = some B from rfl] at hC; rw [← hC]; exact h'
  | k + 2 => simp [two, upd, Env.nil] at hC
theorem St.start_lay (w : World) (F : List Nat) : St w F w (lay []) := (St.start w F).env fun i => by simp [lay, Env.nil]
theorem St.front {L : List Own} (n : Nat) (H : St w0 F0 w (lay L)) : St w0 F0 w (lay (L.take n)) := H.sub fun k A h => by
  simp only [lay, List.getElem?_take] at h ⊢
  split at h
  · exact h
  · cases h
theorem absorb_wp {P : Program} {c : Code} {Q : Exit → Act → World → Prop} {a : Act} (H : St w0 F0 w E) (h : ∀ w', St w0 F0 w' E → c.wp P Q a w') : c.wp P Q a w := h w H
theorem absorb_list {P : Program} {ops : Array Oper} {l : List Oper} {Q : Exit → Act → World → Prop} {a : Act} (H : St w0 F0 w E) (h : ∀ w', St w0 F0 w' E → wpList P ops Q l a w') : wpList P ops Q l a w := h w H
theorem absorb_calls {P : Program} {f : FuncId} {args : Array Value} {R : Ending → World → Prop} (H : St w0 F0 w E) (h : ∀ w', St w0 F0 w' E → Calls P f args w' R) : Calls P f args w R := h w H
/-- a value of all its cells goes into a block -/
theorem St.there {g : Nat} {T : TypeId} {cs : List Value} (H : St w0 F0 w E) (k : Nat) (hk : E k = some (.blk g T cs)) : w.there g 0 cs.length := fun j hj => by
  rw [Nat.zero_add]
  exact ⟨by rw [H.cell k hk (List.getElem?_eq_getElem hj)]; rfl, H.free k hk j⟩
theorem St.range {g : Nat} {T : TypeId} {cs : List Value} (H : St w0 F0 w E) (k : Nat) (hk : E k = some (.blk g T cs)) : w.rangeAt g 0 cs := fun j v hv => by
  rw [Nat.zero_add]; exact H.cell k hk hv
theorem setCells_heap (vs : List Value) : ∀ (w : World) (g o : Nat) (T : TypeId) (C : List Value), w.heap[g]? = some (.cells C.toArray T (0, 0)) → o + vs.length ≤ C.length →
    (w.setCells g o vs).heap[g]? = some (.cells (C.take o ++ vs ++ C.drop (o + vs.length)).toArray T (0, 0)) := by
  induction vs with
  | nil => intro w g o T C h hl; simpa [World.setCells] using h
  | cons v vs ih =>
    intro w g o T C h hl
    simp only [List.length_cons] at hl
    have h1 := heap_setCell_same w g o C.toArray T v h
    have h2 := ih (w.setCell ⟨g, o, none⟩ v) g (o + 1) T (C.set o v) (by simpa using h1) (by simp; omega)
    show ((w.setCell ⟨g, o, none⟩ v).setCells g (o + 1) vs).heap[g]? = _
    rw [h2]
    congr 3
    rw [List.take_add_one, List.take_set_of_le (by omega), List.getElem?_set_self (by omega), List.drop_set_of_lt (by omega)]
    simp [Nat.add_assoc, Nat.add_comm 1]
theorem setCells_low (vs : List Value) : ∀ (w : World) (g o : Nat), Low w [g] (w.setCells g o vs) := by
  induction vs with
  | nil => intro w g o; exact Low.refl _ _
  | cons v vs ih => intro w g o; exact (Low.setCell w ⟨g, o, none⟩ v).trans (ih _ g (o + 1)) (by simp)
theorem St.storeAll {g : Nat} {T : TypeId} {cs vs : List Value} (H : St w0 F0 w E) (k : Nat) (hk : E k = some (.blk g T cs)) (hl : vs.length = cs.length) : St w0 F0 (w.setCells g 0 vs) (upd E k (.blk g T vs)) := by
  obtain ⟨F, ⟨h, e⟩, -, -, hc⟩ := H.change k hk
  subst e
  refine hc _ _ [g] ⟨?_, rfl⟩ (setCells_low vs w g 0) (by simp)
  rw [setCells_heap vs w g 0 T cs h (by omega)]
  simp [hl]
end

section
variable {w0 w : World} {F0 : List Nat} {E : Env}
theorem St.setRow {g : Nat} {T : TypeId} {cs vs : List Value} (H : St w0 F0 w E) (k : Nat) (hk : E k = some (.blk g T cs)) : St w0 F0 (w.setRow g vs.toArray) (upd E k (.blk g T vs)) := by
  obtain ⟨F, ⟨h, e⟩, -, -, hc⟩ := H.change k hk
  subst e
  exact hc _ _ [g] ⟨setRow_heap w g _ _ T _ h, rfl⟩ ⟨rfl, rfl, rfl, by simp [World.setRow], fun i hi hn => setRow_other w g i _ (by simpa using hn)⟩ (by simp)

theorem wp_copy_st {P : Program} {o : Oper} {a : Act} {K : Act → World → Prop} {Q : Exit → Act → World → Prop} (d s : Operand) (dT sT : TypeId)
    (ho : o.op = .call { callee := .builtin .copy, args := #[d, s], argTypes := #[dT, sT] }) (elem : TypeId) (hu : P.underlying dT = some (.slice elem)) (hsz : (P.info? elem).map (·.size) = some 1)
    (dp sp : Option Addr) (dLen dCap sLen sCap : Nat) (hd : a.eval d = .slice dp dLen dCap) (hs : a.eval s = .slice sp sLen sCap)
    (H : St w0 F0 w E) (k g off : Nat) (T : TypeId) (cur : List Value) (hk : E k = some (.blk g T cur)) (cs : List Value) (hn : cs.length = Nat.min sLen dLen)
    (hpos : 0 < cs.length → dp = some ⟨g, off, none⟩ ∧ ∃ ad, sp = some ad ∧ ∀ j v, cs[j]? = some v → w.cell? (ad.add j) = some v)
    (hfit : off + cs.length ≤ cur.length) (h1 : ∀ v ∈ cs, v.oneCell' = true)
    (h : ∀ w', St w0 F0 w' (upd E k (.blk g T (splice cur off cs))) → K (a.put o.dst (.int .i64 (cs.length : Int))) w') : o.wp P a w K Q := by
  by_cases h0 : cs.length = 0
  · obtain rfl : cs = [] := List.eq_nil_of_length_eq_zero h0
    have hrun := run_copy_none (P := P) w dT sT o.type elem dp sp dLen dCap sLen sCap hu hsz (by simpa using hn.symm)
    unfold Oper.wp
    simp [execOp, ho, resolve, invoke, builtin, hd, hs, hrun, Result.andThen]
    have h2 := h w (by rw [show splice cur off [] = cur from by simp [splice], upd_id hk]; exact H)
    exact h2
  · obtain ⟨rfl, ad, rfl, hsrc⟩ := hpos (by omega)
    have hrun := run_copy_row (P := P) w dT sT o.type elem g off dLen dCap ad sLen sCap cur.toArray T cs hu hsz (H.blk k hk) hn hsrc (by simpa using hfit) h1
    unfold Oper.wp
    simp [execOp, ho, resolve, invoke, builtin, hd, hs, hrun, Result.andThen]
    have h2 := h _ (H.setRow (vs := splice cur off cs) k hk)
    rw [show splice cur off cs = cur.take off ++ (cs ++ cur.drop (off + cs.length)) from rfl] at h2

    exact h2
theorem wpList_copy_st {P : Program} {ops : Array Oper} {rest : List Oper} {o : Oper} {a : Act} {Q : Exit → Act → World → Prop} (hgd : o.guard = none) (d s : Operand) (dT sT : TypeId)
    (ho : o.op = .call { callee := .builtin .copy, args := #[d, s], argTypes := #[dT, sT] }) (elem : TypeId) (hu : P.underlying dT = some (.slice elem)) (hsz : (P.info? elem).map (·.size) = some 1)
    (dp sp : Option Addr) (dLen dCap sLen sCap : Nat) (hd : a.eval d = .slice dp dLen dCap) (hs : a.eval s = .slice sp sLen sCap)
    (H : St w0 F0 w E) (k g off : Nat) (T : TypeId) (cur : List Value) (hk : E k = some (.blk g T cur)) (cs : List Value) (hn : cs.length = Nat.min sLen dLen)
    (hpos : 0 < cs.length → dp = some ⟨g, off, none⟩ ∧ ∃ ad, sp = some ad ∧ ∀ j v, cs[j]? = some v → w.cell? (ad.add j) = some v)
    (hfit : off + cs.length ≤ cur.length) (h1 : ∀ v ∈ cs, v.oneCell' = true)
    (h : ∀ w', St w0 F0 w' (upd E k (.blk g T (splice cur off cs))) → wpList P ops Q rest (a.put o.dst (.int .i64 (cs.length : Int))) w') : wpList P ops Q (o :: rest) a w :=
  wpList_plain hgd fun K hK => wp_copy_st d s dT sT ho elem hu hsz dp sp dLen dCap sLen sCap hd hs H k g off T cur hk cs hn hpos hfit h1 fun w' h' => hK _ _ (h w' h')
theorem step_copy_st {P : Program} {ops : Array Oper} {o : Oper} {a : Act} {K : Act → World → Prop} {Q : Exit → Act → World → Prop} {X : Prop} (hgd : o.guard = none) (d s : Operand) (dT sT : TypeId)
    (ho : o.op = .call { callee := .builtin .copy, args := #[d, s], argTypes := #[dT, sT] }) (elem : TypeId) (hu : P.underlying dT = some (.slice elem)) (hsz : (P.info? elem).map (·.size) = some 1)
    (dp sp : Option Addr) (dLen dCap sLen sCap : Nat) (hd : a.eval d = .slice dp dLen dCap) (hs : a.eval s = .slice sp sLen sCap)
    (H : St w0 F0 w E) (k g off : Nat) (T : TypeId) (cur : List Value) (hk : E k = some (.blk g T cur)) (cs : List Value) (hn : cs.length = Nat.min sLen dLen)
    (hpos : 0 < cs.length → dp = some ⟨g, off, none⟩ ∧ ∃ ad, sp = some ad ∧ ∀ j v, cs[j]? = some v → w.cell? (ad.add j) = some v)
    (hfit : off + cs.length ≤ cur.length) (h1 : ∀ v ∈ cs, v.oneCell' = true)
    (h : ∀ w', St w0 F0 w' (upd E k (.blk g T (splice cur off cs))) → K (a.put o.dst (.int .i64 (cs.length : Int))) w') :
    if Region.wanted o (yielded ops a.tmps) = true then Oper.wp P o a w K Q else X := by
  rw [if_pos (by simp [Region.wanted, hgd])]
  exact wp_copy_st d s dT sT ho elem hu hsz dp sp dLen dCap sLen sCap hd hs H k g off T cur hk cs hn hpos hfit h1 h
end
theorem run_index_agg {P : Program} (ty e : TypeId) (len : Nat) (cs : Array Value) (k : Nat) (v : Value) (ht : P.underlying ty = some (.array len e)) (hs : (P.info? e).map (·.size) = some 1) (ha : ∀ w, (isAgg e).run P w = .ok false w) (hk : k < len) (hv : cs[k]? = some v) (w : World) :
    (Instr.index ty (.agg cs) (.int .i64 (k : Int))).run P w = .ok v w := by
  cases hi : P.info? e with
  | none => simp [hi] at hs
  | some i =>
    have h1 : i.size = 1 := by simpa [hi] using hs
    unfold Instr.index
    simp [asIntOf, run_underlying ht, hk, sizeOf, typeInfo, hi, h1, part, ha, hv]
end Go.Proofs.YtenmlkgamlafpaaDoor
