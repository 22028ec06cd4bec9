/- A strings.Builder that only this call writes: copyCheck, WriteString, String. -/
import Derived.Test.YtenmlkgamlafpaaDoorScA

namespace Go.Proofs.YtenmlkgamlafpaaDoor
open Go.RowKit
set_option linter.unusedVariables false
set_option maxRecDepth 100000

theorem bld_size : (Tryd.prog.info? 44).map (·.size) = some 2 := by kernel_rfl

theorem bld_lies : liesAt Tryd.prog Tryd.prog.depth 44 (2 / Tryd.prog.cellsOf 44) 0 44 1 = true := by kernel_rfl

set_option maxHeartbeats 1000000 in
theorem bldCheck_used (b : Nat) (w : World) (h0 : w.cell? ⟨b, 0, none⟩ = some (.pointer (some ⟨b, 0, none⟩))) :
    Calls Tryd.prog 31 #[.pointer (some ⟨b, 0, none⟩)] w fun e w' => e = .returned (.tuple #[]) ∧ w' = w := by
  obtain ⟨j, hj, _⟩ := Option.map_eq_some_iff.1 bld_size
  go_enter Tryd.func31, Tryd.ntmps31
  go_wp2
  rw [Lib.run_neq_ptr_same w _ Tryd.underlying42 hj]
  go_wp2
  go_end0
  exact ⟨rfl, rfl⟩

set_option maxHeartbeats 1000000 in
theorem bldCheck_fresh (b : Nat) (w : World) (h0 : w.cell? ⟨b, 0, none⟩ = some (.pointer none)) (hsh : w.shape? b = some (44, 2)) (hfz : w.frozen? ⟨b, 0, none⟩ = false) :
    Calls Tryd.prog 31 #[.pointer (some ⟨b, 0, none⟩)] w fun e w' => e = .returned (.tuple #[]) ∧ w' = w.setCell ⟨b, 0, none⟩ (.pointer (some ⟨b, 0, none⟩)) := by
  obtain ⟨j, hj, hjs⟩ := Option.map_eq_some_iff.1 bld_size
  go_enter Tryd.func31, Tryd.ntmps31
  go_wp2
  rw [Lib.run_to_unsafe w ⟨b, 0, none⟩ Tryd.underlying42 Tryd.underlying83 hj (by rw [hjs]; decide) hsh (Nat.zero_lt_succ 1)]
  simp only [Result.andThen]
  rw [Oper.upon_value]
  go_wp2
  rw [run_callFunc_extern Tryd.func43 (by kernel_rfl) (by kernel_rfl) (by kernel_rfl) (e := Extern.AbiNoEscape.same) (by kernel_rfl)]
  rw [Lib.run_noEscape]
  simp only [Result.andThen]
  rw [Oper.upon_value]
  go_wp2
  rw [Lib.run_from_unsafe w ⟨b, 0, none⟩ Tryd.underlying83 Tryd.underlying42 hj hsh bld_lies]
  simp only [Result.andThen]
  rw [Oper.upon_value]
  go_wp2
  go_end0
  exact ⟨rfl, rfl⟩

theorem bldCheck_k (B b : Nat) (bs : List Value) (w : World) (h : Lib.IsBuilderF 44 5 B b bs w) :
    Calls Tryd.prog 31 #[.pointer (some ⟨b, 0, none⟩)] w fun e w' => e = .returned (.tuple #[]) ∧ (Lib.BuilderAtF 44 5 B b (.pointer (some ⟨b, 0, none⟩)) bs w' ∧ Below B w w' ∧ Lib.OthersKept 5 (some b) w w') := by
  rcases h with h | h
  · refine (bldCheck_fresh b w h.cell0 h.shape h.frozen0).mono ?_
    rintro e w' ⟨rfl, rfl⟩
    exact ⟨rfl, h.used _, (Below.refl B w).setCell (p := ⟨b, 0, none⟩) h.1 _, (Lib.OthersKept.refl _ _ w).setCell ⟨b, 0, none⟩ rfl _⟩
  · refine (bldCheck_used b w h.cell0).mono ?_
    rintro e w' ⟨rfl, rfl⟩
    exact ⟨rfl, h, Below.refl B _, Lib.OthersKept.refl _ _ _⟩

set_option maxHeartbeats 2000000 in
theorem bldWrite_k (B b : Nat) (bs : List Value) (s : ByteArray) (w : World) (h : Lib.IsBuilderF 44 5 B b bs w) (hlen : bs.length + s.size ≤ 140737488355328) (hBw : B ≤ w.heap.size) :
    Calls Tryd.prog 12 #[.pointer (some ⟨b, 0, none⟩), .string s] w fun e w' => e = .returned (.tuple #[.int .i64 s.size, .nilIface]) ∧ (Lib.BuilderAtF 44 5 B b (.pointer (some ⟨b, 0, none⟩)) (bs ++ Lib.strCells s) w' ∧ Below B w w' ∧ Lib.OthersKept 5 (some b) w w') := by
  obtain ⟨i0, hi, hz0, hz1, hz2⟩ := info_parts u8_info
  go_enter Tryd.func12, Tryd.ntmps12
  go_wp2_with fail
  refine (bldCheck_k B b bs _ h).mono ?_
  rintro e w1 ⟨rfl, h1, hb1, hk1⟩
  obtain ⟨hB, v, hbk, hown, hne⟩ := h1
  have c0 : w1.cell? ⟨b, 0, none⟩ = some (.pointer (some ⟨b, 0, none⟩)) := by rw [Lib.cell_of_heap hbk]; rfl
  have c1 : w1.cell? ⟨b, 1, none⟩ = some v := by rw [Lib.cell_of_heap hbk]; rfl
  go_wp2_with (at_builtin; refine Lib.wpList_append_own_stringF _ rfl _ _ 26 9 rfl B 5 i0 Tryd.underlying26 Tryd.underlying9 hi hz0 hz1 hz2 _ _ _ rfl hown s rfl ?c3 ?c4 ?c5 ?_)
  case c3 => unfold maxLen; omega
  case c4 => omega
  case c5 => have := hb1.size; omega
  intro v' w2 hown' hgrow _
  have hlt : b < w1.heap.size := by
    rcases Nat.lt_or_ge b w1.heap.size with h' | h'
    · exact h'
    · simp [Array.getElem?_eq_none h'] at hbk
  have hb2 : w2.heap[b]? = some (.cells #[.pointer (some ⟨b, 0, none⟩), v] 44 (0, 0)) := by
    rw [hgrow.block b hlt (fun e => hne e.symm)]
    exact hbk
  have d0 : w2.cell? ⟨b, 0, none⟩ = some (.pointer (some ⟨b, 0, none⟩)) := by rw [Lib.cell_of_heap hb2]; rfl
  have d1 : w2.cell? ⟨b, 1, none⟩ = some v := by rw [Lib.cell_of_heap hb2]; rfl
  have f1 : w2.frozen? ⟨b, 1, none⟩ = false := Lib.frozen_of_heap hb2 1
  obtain ⟨ao, n', cap, rfl⟩ : ∃ ao n' cap, v' = .slice ao n' cap := by
    rcases hown'.2 with ⟨hv, _⟩ | ⟨g, cap, cur, fz, hv, _⟩
    · exact ⟨_, _, _, hv⟩
    · exact ⟨_, _, _, hv⟩
  go_wp2
  go_ret2
  refine ⟨rfl, ?_, ?_, (hk1.grown hgrow (Lib.ownsRowF_kind hown)).setCell ⟨b, 1, none⟩ rfl _⟩
  · exact Lib.BuilderAtF.put (T := 44) (e := 5) hB hb2 (bs' := bs ++ Lib.strCells s) (by simpa [Lib.strCells_length] using hown') (by decide)
  · exact (hb1.grown hgrow (by have := hb1.size; omega) (fun k hk => (hown.lt k hk).1)).setCell (p := ⟨b, 1, none⟩) hB _

/-- what stands while a text is written: the builder, and all that was there ahead of it -/
structure PS (w0 : World) (acc : List UInt8) (w : World) : Prop where
  bld : Lib.IsBuilderF 44 5 w0.heap.size w0.heap.size (Lib.byteCells acc) w
  low : Below w0.heap.size w0 w
  lt : w0.heap.size < w.heap.size

theorem IsB.call {B b : Nat} {bs : List Value} {w w' : World} (h : Lib.IsBuilderF 44 5 B b bs w) (hb : Below w.heap.size w w') : Lib.IsBuilderF 44 5 B b bs w' := by
  have key : ∀ p, Lib.BuilderAtF 44 5 B b p bs w → Lib.BuilderAtF 44 5 B b p bs w' := fun p h => by
    have hlt := h.lt
    obtain ⟨hB, v, hbk, hown, hne⟩ := h
    exact ⟨hB, v, (hb.block b hlt).trans hbk, hown.kept (row := none) ⟨hb.os, hb.tape, hb.output, hb.size, fun k hk _ => hb.block k hk⟩ (by cases hv : v.ownBlock <;> simp), hne⟩
  exact h.imp (key _) (key _)

theorem PS.start (w0 : World) : PS w0 [] (w0.alloc (.cells #[.pointer none, .slice none 0 0] 44)) :=
  ⟨Lib.IsBuilderF.of (Lib.fresh_isBuilder 44 5 w0), (Below.refl _ _).alloc (Nat.le_refl _) _, by simp⟩

theorem PS.call {w0 w w' : World} {acc : List UInt8} (h : PS w0 acc w) (hb : Below w.heap.size w w') : PS w0 acc w' :=
  ⟨IsB.call h.bld hb, h.low.trans (hb.mono (Nat.le_of_lt h.lt)), Nat.lt_of_lt_of_le h.lt hb.size⟩

theorem PS.alloc {w0 w : World} {acc : List UInt8} (h : PS w0 acc w) (o : Obj) : PS w0 acc (w.alloc o) := h.call ((Below.refl _ _).alloc (Nat.le_refl _) o)

theorem PS.st {w0 w : World} {acc : List UInt8} {L : List Own} (h : PS w0 acc w) {wb : World} (H : St wb [] w0 (lay L)) : St wb [] w (lay L) := H.call h.low

/-- a block that is no row of bytes -/
def Blk (w : World) (w0 : World) (g : Nat) (T : TypeId) (cs : List Value) : Prop := w.heap[g]? = some (.cells cs.toArray T (0, 0)) ∧ w0.heap.size < g ∧ T ≠ 5

theorem Blk.call {w w' w0 : World} {g : Nat} {T : TypeId} {cs : List Value} (h : Blk w w0 g T cs) (hb : Below w.heap.size w w') : Blk w' w0 g T cs :=
  ⟨(hb.block g (lt_of_heap h.1)).trans h.1, h.2⟩

theorem Blk.new {w w0 : World} {acc : List UInt8} (h : PS w0 acc w) (T : TypeId) (hT : T ≠ 5) (cs : Array Value) : Blk (w.alloc (.cells cs T)) w0 w.heap.size T cs.toList :=
  ⟨by rw [heap_alloc_new], h.lt, hT⟩

theorem Blk.cell {w w0 : World} {g : Nat} {T : TypeId} {cs : List Value} (h : Blk w w0 g T cs) {o : Nat} {u : Value} (hu : cs[o]? = some u) : w.cell? ⟨g, o, none⟩ = some u := by
  rw [Lib.cell_of_heap h.1]; simpa using hu

/-- a piece of text is written -/
theorem PS.write {w0 w : World} {acc : List UInt8} (h : PS w0 acc w) (l : List UInt8) (hlen : acc.length + l.length ≤ 140737488355328) :
    Calls Tryd.prog 12 #[.pointer (some ⟨w0.heap.size, 0, none⟩), tv l] w fun e w' => ∃ v, e = .returned v ∧ PS w0 (acc ++ l) w' ∧ (∀ g T cs, Blk w w0 g T cs → Blk w' w0 g T cs) := by
  have e1 : (⟨l.toArray⟩ : ByteArray).size = l.length := by show l.toArray.size = _; simp
  have e2 : Lib.strCells ⟨l.toArray⟩ = Lib.byteCells l := by simp [Lib.strCells, Lib.byteCells]
  refine (bldWrite_k w0.heap.size w0.heap.size (Lib.byteCells acc) ⟨l.toArray⟩ w h.bld (by rw [e1, Lib.byteCells_length]; exact hlen) (Nat.le_of_lt h.lt)).mono ?_
  rintro e w' ⟨rfl, h1, hb, hk⟩
  rw [e2, ← Lib.byteCells_append] at h1
  refine ⟨_, rfl, ⟨.inr h1, h.low.trans hb, Nat.lt_of_lt_of_le h.lt hb.size⟩, fun g T cs hg => ⟨?_, hg.2⟩⟩
  exact hk g _ hg.1 (fun e => by have := Option.some.inj e; have := hg.2.1; omega) (fun c fz e => hg.2.2 (by injection e))

end Go.Proofs.YtenmlkgamlafpaaDoor
