/- Words of a line: numbers and bytes as text; script.hex and the document's. -/
import Derived.Test.YtenmlkgamlafpaaDoorShelf
import Derived.Test.YtenmlkgamlafpaaDoorKitO
import Derived.Test.YtenmlkgamlafpaaDoorRowOs
import Derived.Test.YtenmlkgamlafpaaDoorUses
import Derived.Laws.BytesArg
import Derived.Shelf.Bytes.SlSmallAll

namespace Go.Proofs.YtenmlkgamlafpaaDoor
open Go.RowKit
set_option linter.unusedVariables false
set_option maxRecDepth 100000

/-- the table that strconv reads -/
def Tab (w : World) : Prop := Lib.TabIs Tryd.prog w "internal/strconv.uint64pow10" .u64 Lib.pow10Tab

theorem Tab.below {w w' : World} (h : Tab w) (hb : Below w.heap.size w w') : Tab w' := by
  unfold Tab Lib.TabIs World.var? at h ⊢
  cases hg : Tryd.prog.globalNamed "internal/strconv.uint64pow10" with
  | none => rw [hg] at h; cases h
  | some g =>
    rw [hg] at h
    simp only [Option.bind_some] at h ⊢
    have hlt : g < w.heap.size := by
      rcases Nat.lt_or_ge g w.heap.size with h' | h'
      · exact h'
      · rw [Array.getElem?_eq_none h'] at h; cases h
    rw [hb.block g hlt]
    exact h

theorem Tab.st {w w' : World} {E : Env} (h : Tab w) (H : St w [] w' E) : Tab w' := h.below H.below

/-- text as a value -/
def tv (l : List UInt8) : Value := .string ⟨l.toArray⟩

theorem itoa_s (n : Int) (w : World) (h0 : -9223372036854775808 ≤ n) (h1 : n ≤ 9223372036854775807) (ht : Tab w) : Calls Tryd.prog 13 #[.int .i64 n] w fun e w' => e = .returned (tv (Lib.itoa n)) ∧ Below w.heap.size w w' := by
  refine (Tryd.strconv_Itoa n h0 h1 w ht).mono ?_
  rintro e w' ⟨rfl, k, os, rfl⟩
  refine ⟨rfl, ⟨rfl, rfl, rfl, by simp [Sort.grow], fun b hb => ?_⟩⟩
  show ((w.drewN k).heap ++ os)[b]? = w.heap[b]?
  rw [Array.getElem?_append_left (by simpa using hb)]
  rfl

/-- a digit of sixteen -/
def dig16 (x : Nat) : UInt8 := [48, 49, 50, 51, 52, 53, 54, 55, 56, 57, 97, 98, 99, 100, 101, 102].getD x 0

def hexR (l : List UInt8) : List UInt8 := l.flatMap fun b => [dig16 (b.toNat / 16), dig16 (b.toNat % 16)]

/-- bytes as a word -/
def hexB (l : List UInt8) : List UInt8 := if l = [] then [45] else hexR l

theorem hexR_length (l : List UInt8) : (hexR l).length = 2 * l.length := by
  induction l with
  | nil => rfl
  | cons b l ih => simp only [hexR, List.flatMap_cons, List.length_append, List.length_cons, List.length_nil] at ih ⊢; omega

theorem hexR_snoc (l : List UInt8) (b : UInt8) : hexR (l ++ [b]) = hexR l ++ [dig16 (b.toNat / 16), dig16 (b.toNat % 16)] := by
  simp [hexR]

theorem hexB_le (l : List UInt8) : (hexB l).length ≤ 2 * l.length + 1 := by
  unfold hexB
  split
  · simp
  · rw [hexR_length]; omega

def digS : ByteArray := { data := #[48, 49, 50, 51, 52, 53, 54, 55, 56, 57, 97, 98, 99, 100, 101, 102] }

theorem and15' : ∀ b : Fin 256, bits BinOp.and IntKind.u8 ((b.val : Nat) : Int) 15 = ((b.val % 16 : Nat) : Int) := by decide +kernel

theorem and15 (b : UInt8) : bits BinOp.and IntKind.u8 (b.toNat : Int) 15 = ((b.toNat % 16 : Nat) : Int) := and15' ⟨b.toNat, b.toNat_lt⟩

theorem conv_t {w : World} {A : Option Addr} {n c : Nat} {l : List UInt8} (h : Rd w 1 A n (l.map vb)) : (convert 26 9 (.slice A n c)).run Tryd.prog w = .ok (tv l) w := by
  have hl : l.length = n := by simpa using h.1
  by_cases h0 : n = 0
  · subst h0
    obtain rfl : l = [] := List.eq_nil_of_length_eq_zero hl
    exact Go.Proofs.run_convert_bytes_zero w 26 5 Tryd.underlying26 Tryd.underlying5 A c 9 Tryd.underlying9
  · obtain ⟨b, o, rfl, -, hc⟩ := h.flat (by omega) (by omega)
    have h1 := run_convert_bytes_arg (P := Tryd.prog) w 26 5 Tryd.underlying26 Tryd.underlying5 b o n c (l.map fun b => (b.toNat : Int)) (by simpa using hl) (fun i hi => by
      have := hc i (vb (l.getD i 0)) (by rw [List.getElem?_map, List.getD_eq_getElem?_getD, List.getElem?_eq_getElem (by omega)]; rfl)
      rw [this]
      simp [List.getD_eq_getElem?_getD, List.getElem?_map, List.getElem?_eq_getElem (show i < l.length by omega)]) 9 Tryd.underlying9
    rw [h1]
    unfold strOfNums tv
    rw [List.map_map]
    congr 4
    conv => rhs; rw [← List.map_id l]
    refine List.map_congr_left fun x _ => ?_
    simp

theorem St.rdBlkS {w0 w : World} {F0 : List Nat} {E : Env} {g : Nat} {T : TypeId} {cs : List Value} (H : St w0 F0 w E) (k : Nat) (hk : E k = some (.blk g T cs)) (size n : Nat) (hl : cs.length = n * size) : Rd w size (some ⟨g, 0, none⟩) n cs :=
  ⟨hl, fun _ => ⟨_, rfl, H.lt k hk, fun j u hu => by rw [Addr.add_mid, Nat.zero_add]; exact H.cell k hk hu⟩⟩

end Go.Proofs.YtenmlkgamlafpaaDoor
