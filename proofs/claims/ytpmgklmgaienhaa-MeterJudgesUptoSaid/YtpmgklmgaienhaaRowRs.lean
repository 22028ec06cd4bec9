/- What a row's reading gives to a walk: lists of lists of runs, where what is read is of bulk at most 1048576. -/
import Derived.Test.YtpmgklmgaienhaaRowU
import Derived.Test.YtpmgklmgaienhaaRowR
import Derived.Test.YtpmgklmgaienhaaMeCol

namespace Go.Proofs.Ytpmgklmgaienhaa
open Go.ChangeShapes Go.WideShapes Go.ChangeAt Go.RowKit
set_option linter.unusedVariables false
set_option maxRecDepth 100000

theorem bulk_one {H : Type} (d : DataW H) : 1 ≤ Rows.uptoBulk d := by
  cases d with
  | lit v => cases v <;> simp [Rows.uptoBulk]
  | _ => simp [Rows.uptoBulk]

theorem bulk_each {H : Type} (L : List (DataW H)) : L.length ≤ Rows.uptoBulkAll L := by
  induction L with
  | nil => simp
  | cons x r ih =>
    rw [Rows.uptoBulkAll, List.length_cons]
    have h1 := bulk_one x
    omega

theorem bulk_at {H : Type} {ds : List (DataW H)} {d : DataW H} {i : Nat} (h : ds[i]? = some d) : Rows.uptoBulk d ≤ Rows.uptoBulkAll ds := bulk_mem h

def RowM.Ok (r : RowM) (W : World) : Prop := Rd W 3 r.A r.n (runsV r.l) ∧ r.n ≤ 1048576 ∧ r.n ≤ r.c ∧ ∀ x ∈ r.l, RunOk x

theorem RowM.Ok.rows {W : World} {rs : List RowM} (h : ∀ r ∈ rs, RowM.Ok r W) : RowsOk W rs := fun r hr => ⟨(h r hr).1, Nat.le_trans (h r hr).2.1 (by decide), (h r hr).2.2.2⟩

instance : Inhabited RowM := ⟨⟨none, 0, 0, []⟩⟩

theorem rows_cellsOf : Try.prog.cellsOf 35 = 1 := by kernel_rfl

theorem row_of_trodU {H : Type} {enc : TypeId × Value → H} {W : World} {b : Nat} {sp : Nat → Bool} {hd : Bool} {fuel : Nat} {cs0 : List Value} {y : DataW H × List MemPlace}
    (hu : Rows.uptoBulk y.1 ≤ 1048576) (hf : DataW.trod enc Try.prog W b sp hd fuel 35 cs0 = some y) : ∃ r : RowM, cs0 = [rowMV r] ∧ r.Ok W := by
  obtain ⟨a, len, cap, l, rfl, hR, hc, hok, hds⟩ := runs_of_trod hf
  refine ⟨⟨a, len, cap, l⟩, rfl, hR, ?_, hc, hok⟩
  show len ≤ 1048576
  rcases hds with rfl | ⟨ds, ds', e, hle⟩
  · omega
  · rw [e] at hu
    simp only [Rows.uptoBulk] at hu
    have := bulk_each ds
    omega

theorem open_hpsU {H : Type} {enc : TypeId × Value → H} {W : World} {d : DataW H} {p : List MemPlace} {a : Option Addr} {len cap : Nat} {b : Nat} {sp : Nat → Bool} {hd : Bool}
    (h : DataW.Trod enc Try.prog W b sp hd 41 (.slice a len cap) d p) (hu : Rows.uptoBulk d ≤ 1048576) : ∃ l : List RowM, Rd W 1 a len (l.map rowMV) ∧ len ≤ 1048576 ∧ ∀ r ∈ l, r.Ok W := by
  obtain ⟨fuel, hf⟩ := h
  rcases Go.Deep.open_slice Try.underlying41 hf with ⟨hcs, _⟩ | ⟨x, l, c, m, n, D, Pl, hcs, hb, hl, hm, hmm, hx, hel⟩
  · simp [Value.cells] at hcs
    obtain ⟨rfl, rfl, rfl⟩ := hcs
    exact ⟨[], Rd.none_, by omega, by simp⟩
  · simp [Value.cells] at hcs
    obtain ⟨rfl, rfl, rfl⟩ := hcs
    simp only [Prod.mk.injEq] at hx
    have hx1 := hx.1
    subst hx1
    have hlm : len ≤ m := by rw [hmm]; split <;> omega
    simp only [Rows.uptoBulk] at hu
    have hlen1 : len ≤ 1048576 := by
      have h := bulk_each ((List.range len).map D)
      rw [List.length_map, List.length_range] at h
      omega
    have each : ∀ i, i < len → ∃ s : RowM, s.Ok W ∧ W.cell? (x.add i) = some (rowMV s) := by
      intro i hi
      obtain ⟨cs', h1, h2⟩ := hel i (by omega)
      rw [rows_cellsOf] at h1
      obtain ⟨s, rfl, ok⟩ := row_of_trodU (Nat.le_trans (bulk_mem (ds := (List.range len).map D) (i := i) (d := D i) (by rw [List.getElem?_map, List.getElem?_range hi]; rfl)) (by omega)) h2
      refine ⟨s, ok, ?_⟩
      have := (World.cells?_some h1).2.2 0 (by omega)
      rw [add_of_add] at this
      simpa using this
    obtain ⟨f, hf'⟩ := Go.Deep.choose_lt each
    have hlen : ((List.range len).map f).length = len := by simp
    refine ⟨(List.range len).map f, ⟨by rw [List.length_map, hlen, Nat.mul_one], fun hn => ⟨x, rfl, ?_, fun i u hu => ?_⟩⟩, hlen1, ?_⟩
    · have h0 := (hf' 0 (by omega)).2
      have := World.block_lt_of_cell? W _ h0
      rwa [block_of_add] at this
    · have hi : i < len := by have := (List.getElem?_eq_some_iff.1 hu).1; rw [List.length_map, hlen] at this; exact this
      rw [(hf' i hi).2]
      rw [List.getElem?_map, List.getElem?_map, List.getElem?_range hi] at hu
      exact hu
    · intro s hs
      obtain ⟨i, hi, rfl⟩ := List.mem_map.1 hs
      exact (hf' i (List.mem_range.1 hi)).1

end Go.Proofs.Ytpmgklmgaienhaa
