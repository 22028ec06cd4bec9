/- A line and a text, plainly; script.has. -/
import Derived.Test.YtenmlkgamlafpaaDoorScA
import Derived.Lib.ItoaLen

namespace Go.Proofs.YtenmlkgamlafpaaDoor
open Go.RowKit
set_option linter.unusedVariables false
set_option maxRecDepth 100000

def wordOf (k : UInt8) : List UInt8 :=
  if k = 1 then [112, 117, 116] else
  if k = 2 then [98, 101, 103, 105, 110] else
  if k = 3 then [117, 112, 100, 97, 116, 101] else
  if k = 4 then [102, 105, 110, 105, 115, 104] else
  if k = 5 then [118, 101, 114, 105, 102, 121] else
  if k = 6 then [99, 108, 111, 110, 101] else
  if k = 7 then [104, 107, 100, 102] else
  if k = 8 then [112, 98, 107, 100, 102] else
  if k = 9 then [114, 101, 118, 101, 97, 108] else
  if k = 10 then [100, 114, 111, 112] else
  []

theorem word_1 : wordOf 1 = [112, 117, 116] := rfl

theorem word_2 : wordOf 2 = [98, 101, 103, 105, 110] := rfl

theorem word_3 : wordOf 3 = [117, 112, 100, 97, 116, 101] := rfl

theorem word_4 : wordOf 4 = [102, 105, 110, 105, 115, 104] := rfl

theorem word_5 : wordOf 5 = [118, 101, 114, 105, 102, 121] := rfl

theorem word_6 : wordOf 6 = [99, 108, 111, 110, 101] := rfl

theorem word_7 : wordOf 7 = [104, 107, 100, 102] := rfl

theorem word_8 : wordOf 8 = [112, 98, 107, 100, 102] := rfl

theorem word_9 : wordOf 9 = [114, 101, 118, 101, 97, 108] := rfl

theorem word_10 : wordOf 10 = [100, 114, 111, 112] := rfl

theorem word_le (k : UInt8) : (wordOf k).length ≤ 6 := by
  unfold wordOf
  repeat' split
  all_goals decide

/-- a field's word -/
def fieldB (s : OpR) : Nat → List UInt8
  | 0 => Lib.itoa s.h
  | 1 => Lib.itoa (s.a.toNat : Int)
  | 2 => Lib.itoa s.c
  | 3 => Lib.itoa s.o
  | 4 => hexB s.xs
  | _ => hexB s.ys

def fieldsB (s : OpR) (cs : List Nat) : List UInt8 := cs.flatMap fun c => 32 :: fieldB s c

def kindW : List UInt8 := [107, 105, 110, 100, 32]

/-- an operation as a line -/
def lineB (s : OpR) : List UInt8 := if usesOf s.k = [] then kindW ++ Lib.itoa (s.k.toNat : Int) else wordOf s.k ++ fieldsB s (usesOf s.k)

def textB (l : List OpR) : List UInt8 := l.flatMap fun s => lineB s ++ [10]

/-- how many bytes of lists a line has -/
def hasN (s : OpR) : Nat := (if 4 ∈ usesOf s.k then s.n else 0) + (if 5 ∈ usesOf s.k then s.m else 0)

def sumH (l : List OpR) : Nat := (l.map hasN).sum

def fits30 (l : List OpR) : Bool := decide (l.length ≤ 4096 ∧ sumH l ≤ 1048576)

def printT (l : List OpR) : List UInt8 := if fits30 l = true then textB l else []

def printE (l : List OpR) : Int := if fits30 l = true then 0 else 9

theorem sumH_take {l : List OpR} {j : Nat} {s : OpR} (h : l[j]? = some s) : sumH (l.take (j + 1)) = sumH (l.take j) + hasN s := by
  unfold sumH; rw [List.take_add_one, h]; simp

theorem textB_take {l : List OpR} {j : Nat} {s : OpR} (h : l[j]? = some s) : textB (l.take (j + 1)) = textB (l.take j) ++ (lineB s ++ [10]) := by
  unfold textB; rw [List.take_add_one, h]; simp

theorem sumH_le {l : List OpR} : ∀ j, sumH (l.take j) ≤ sumH l := fun j => by
  unfold sumH
  conv => rhs; rw [← List.take_append_drop j l, List.map_append, List.sum_append]
  omega

theorem sumH_mem {l : List OpR} {s : OpR} (h : s ∈ l) : hasN s ≤ sumH l := by
  induction l with
  | nil => simp at h
  | cons x r ih =>
    unfold sumH at ih ⊢
    simp only [List.map_cons, List.sum_cons]
    rcases List.mem_cons.1 h with rfl | h
    · omega
    · have := ih h; omega

theorem uses_cases (k : UInt8) : k = 1 ∨ k = 2 ∨ k = 3 ∨ k = 4 ∨ k = 5 ∨ k = 6 ∨ k = 7 ∨ k = 8 ∨ k = 9 ∨ k = 10 ∨ usesOf k = [] := by
  unfold usesOf
  by_cases h1 : k = 1
  · exact .inl h1
  by_cases h2 : k = 2
  · exact .inr (.inl h2)
  by_cases h3 : k = 3
  · exact .inr (.inr (.inl h3))
  by_cases h4 : k = 4
  · exact .inr (.inr (.inr (.inl h4)))
  by_cases h5 : k = 5
  · exact .inr (.inr (.inr (.inr (.inl h5))))
  by_cases h6 : k = 6
  · exact .inr (.inr (.inr (.inr (.inr (.inl h6)))))
  by_cases h7 : k = 7
  · exact .inr (.inr (.inr (.inr (.inr (.inr (.inl h7))))))
  by_cases h8 : k = 8
  · exact .inr (.inr (.inr (.inr (.inr (.inr (.inr (.inl h8)))))))
  by_cases h9 : k = 9
  · exact .inr (.inr (.inr (.inr (.inr (.inr (.inr (.inr (.inl h9))))))))
  by_cases h10 : k = 10
  · exact .inr (.inr (.inr (.inr (.inr (.inr (.inr (.inr (.inr (.inl h10)))))))))
  · right; right; right; right; right; right; right; right; right; right
    simp [h1, h2, h3, h4, h5, h6, h7, h8, h9, h10]

/-- the numbers of an operation -/
def OpR.In (s : OpR) : Prop := (-9223372036854775808 ≤ s.h ∧ s.h ≤ 9223372036854775807) ∧ (-9223372036854775808 ≤ s.c ∧ s.c ≤ 9223372036854775807) ∧ (-9223372036854775808 ≤ s.o ∧ s.o ≤ 9223372036854775807) ∧ s.xs.length = s.n ∧ s.ys.length = s.m

theorem OpR.Ok.isIn {w : World} {s : OpR} (h : s.Ok w) : s.In :=
  ⟨h.ih, h.ic, h.io, by have := h.ra.1; simpa using this, by have := h.rb.1; simpa using this⟩

theorem field_le {s : OpR} (h : s.In) (c : Nat) : (fieldB s c).length ≤ 21 + 2 * ((if c = 4 then s.n else 0) + (if 5 ≤ c then s.m else 0)) := by
  obtain ⟨h1, h2, h3, h4, h5⟩ := h
  have ha := s.a.toNat_lt
  match c with
  | 0 => have := Lib.itoa_length_le s.h h1.1 h1.2; simpa [fieldB] using this
  | 1 => have := Lib.itoa_length_le (s.a.toNat : Int) (by omega) (by omega); simpa [fieldB] using this
  | 2 => have := Lib.itoa_length_le s.c h2.1 h2.2; simpa [fieldB] using this
  | 3 => have := Lib.itoa_length_le s.o h3.1 h3.2; simpa [fieldB] using this
  | 4 => have := hexB_le s.xs; simp only [fieldB]; simp; omega
  | c + 5 => have := hexB_le s.ys; simp only [fieldB]; simp; omega

theorem line_le {s : OpR} (h : s.In) : (lineB s).length ≤ 2 * hasN s + 150 := by
  have hw := word_le s.k
  have f0 := field_le h 0
  have f1 := field_le h 1
  have f2 := field_le h 2
  have f3 := field_le h 3
  have f4 := field_le h 4
  have f5 := field_le h 5
  have hkt := s.k.toNat_lt
  have fk := Lib.itoa_length_le (s.k.toNat : Int) (by omega) (by omega)
  simp at f0 f1 f2 f3 f4 f5
  rcases uses_cases s.k with hk | hk | hk | hk | hk | hk | hk | hk | hk | hk | hk
  · have hu : usesOf s.k = [4] := by rw [hk]; rfl
    unfold lineB hasN fieldsB; rw [hu]; simp; omega
  · have hu : usesOf s.k = [0, 1, 3, 4] := by rw [hk]; rfl
    unfold lineB hasN fieldsB; rw [hu]; simp; omega
  · have hu : usesOf s.k = [0, 4] := by rw [hk]; rfl
    unfold lineB hasN fieldsB; rw [hu]; simp; omega
  · have hu : usesOf s.k = [0] := by rw [hk]; rfl
    unfold lineB hasN fieldsB; rw [hu]; simp; omega
  · have hu : usesOf s.k = [0, 4] := by rw [hk]; rfl
    unfold lineB hasN fieldsB; rw [hu]; simp; omega
  · have hu : usesOf s.k = [0] := by rw [hk]; rfl
    unfold lineB hasN fieldsB; rw [hu]; simp; omega
  · have hu : usesOf s.k = [0, 1, 3, 4, 5] := by rw [hk]; rfl
    unfold lineB hasN fieldsB; rw [hu]; simp; omega
  · have hu : usesOf s.k = [0, 1, 2, 3, 4] := by rw [hk]; rfl
    unfold lineB hasN fieldsB; rw [hu]; simp; omega
  · have hu : usesOf s.k = [0] := by rw [hk]; rfl
    unfold lineB hasN fieldsB; rw [hu]; simp; omega
  · have hu : usesOf s.k = [0] := by rw [hk]; rfl
    unfold lineB hasN fieldsB; rw [hu]; simp; omega
  · unfold lineB hasN fieldsB; rw [hk]; simp [kindW]; omega

theorem text_le {l : List OpR} (h : ∀ s ∈ l, s.In) : (textB l).length ≤ 2 * sumH l + 151 * l.length := by
  induction l with
  | nil => simp [textB, sumH]
  | cons s r ih =>
    have h1 := line_le (h s (by simp))
    have h2 := ih (fun x hx => h x (by simp [hx]))
    unfold textB sumH at h2 ⊢
    simp only [List.flatMap_cons, List.length_append, List.map_cons, List.sum_cons, List.length_cons, List.length_nil] at h2 ⊢
    omega

theorem has_1 (h : Int) (a : UInt8) (c o : Int) (A B : Option Addr) (n cA m cB : Nat) (w : World) :
    Calls Tryd.prog 10 #[.agg #[.int .u8 1, .int .i64 h, .int .u8 (a.toNat : Int), .int .i64 c, .int .i64 o, .slice A n cA, .slice B m cB]] w fun e w' => e = .returned (.int .i64 (n : Int)) ∧ Below w.heap.size w w' := by
  have HA := (St.start_lay w []).allocAt 0 rfl w.heap.size rfl #[.int .u8 1, .int .i64 h, .int .u8 (a.toNat : Int), .int .i64 c, .int .i64 o, .slice A n cA, .slice B m cB] 28 |>.push_mk rfl
  go_enter Tryd.func10, Tryd.ntmps10
  go_upto_region 1 with (fail)
  refine absorb_wp HA ?_
  clear HA
  intro w2 H
  generalize w.heap.size = g at H ⊢
  replace H : St w [] w2 (lay [.blk g 28 [.int .u8 1, .int .i64 h, .int .u8 (a.toNat : Int), .int .i64 c, .int .i64 o, .slice A n cA, .slice B m cB]]) := H
  have c0 := H.cell 0 rfl (o := 0) (u := .int .u8 1) rfl
  have c5 := H.cell 0 rfl (o := 5) (u := .slice A n cA) rfl
  have c6 := H.cell 0 rfl (o := 6) (u := .slice B m cB) rfl
  go_wp2
  go_ret
  exact ⟨rfl, H.below⟩

theorem has_2 (h : Int) (a : UInt8) (c o : Int) (A B : Option Addr) (n cA m cB : Nat) (w : World) :
    Calls Tryd.prog 10 #[.agg #[.int .u8 2, .int .i64 h, .int .u8 (a.toNat : Int), .int .i64 c, .int .i64 o, .slice A n cA, .slice B m cB]] w fun e w' => e = .returned (.int .i64 (n : Int)) ∧ Below w.heap.size w w' := by
  have HA := (St.start_lay w []).allocAt 0 rfl w.heap.size rfl #[.int .u8 2, .int .i64 h, .int .u8 (a.toNat : Int), .int .i64 c, .int .i64 o, .slice A n cA, .slice B m cB] 28 |>.push_mk rfl
  go_enter Tryd.func10, Tryd.ntmps10
  go_upto_region 1 with (fail)
  refine absorb_wp HA ?_
  clear HA
  intro w2 H
  generalize w.heap.size = g at H ⊢
  replace H : St w [] w2 (lay [.blk g 28 [.int .u8 2, .int .i64 h, .int .u8 (a.toNat : Int), .int .i64 c, .int .i64 o, .slice A n cA, .slice B m cB]]) := H
  have c0 := H.cell 0 rfl (o := 0) (u := .int .u8 2) rfl
  have c5 := H.cell 0 rfl (o := 5) (u := .slice A n cA) rfl
  have c6 := H.cell 0 rfl (o := 6) (u := .slice B m cB) rfl
  go_wp2
  go_ret
  exact ⟨rfl, H.below⟩

theorem has_3 (h : Int) (a : UInt8) (c o : Int) (A B : Option Addr) (n cA m cB : Nat) (w : World) :
    Calls Tryd.prog 10 #[.agg #[.int .u8 3, .int .i64 h, .int .u8 (a.toNat : Int), .int .i64 c, .int .i64 o, .slice A n cA, .slice B m cB]] w fun e w' => e = .returned (.int .i64 (n : Int)) ∧ Below w.heap.size w w' := by
  have HA := (St.start_lay w []).allocAt 0 rfl w.heap.size rfl #[.int .u8 3, .int .i64 h, .int .u8 (a.toNat : Int), .int .i64 c, .int .i64 o, .slice A n cA, .slice B m cB] 28 |>.push_mk rfl
  go_enter Tryd.func10, Tryd.ntmps10
  go_upto_region 1 with (fail)
  refine absorb_wp HA ?_
  clear HA
  intro w2 H
  generalize w.heap.size = g at H ⊢
  replace H : St w [] w2 (lay [.blk g 28 [.int .u8 3, .int .i64 h, .int .u8 (a.toNat : Int), .int .i64 c, .int .i64 o, .slice A n cA, .slice B m cB]]) := H
  have c0 := H.cell 0 rfl (o := 0) (u := .int .u8 3) rfl
  have c5 := H.cell 0 rfl (o := 5) (u := .slice A n cA) rfl
  have c6 := H.cell 0 rfl (o := 6) (u := .slice B m cB) rfl
  go_wp2
  go_ret
  exact ⟨rfl, H.below⟩

theorem has_5 (h : Int) (a : UInt8) (c o : Int) (A B : Option Addr) (n cA m cB : Nat) (w : World) :
    Calls Tryd.prog 10 #[.agg #[.int .u8 5, .int .i64 h, .int .u8 (a.toNat : Int), .int .i64 c, .int .i64 o, .slice A n cA, .slice B m cB]] w fun e w' => e = .returned (.int .i64 (n : Int)) ∧ Below w.heap.size w w' := by
  have HA := (St.start_lay w []).allocAt 0 rfl w.heap.size rfl #[.int .u8 5, .int .i64 h, .int .u8 (a.toNat : Int), .int .i64 c, .int .i64 o, .slice A n cA, .slice B m cB] 28 |>.push_mk rfl
  go_enter Tryd.func10, Tryd.ntmps10
  go_upto_region 1 with (fail)
  refine absorb_wp HA ?_
  clear HA
  intro w2 H
  generalize w.heap.size = g at H ⊢
  replace H : St w [] w2 (lay [.blk g 28 [.int .u8 5, .int .i64 h, .int .u8 (a.toNat : Int), .int .i64 c, .int .i64 o, .slice A n cA, .slice B m cB]]) := H
  have c0 := H.cell 0 rfl (o := 0) (u := .int .u8 5) rfl
  have c5 := H.cell 0 rfl (o := 5) (u := .slice A n cA) rfl
  have c6 := H.cell 0 rfl (o := 6) (u := .slice B m cB) rfl
  go_wp2
  go_ret
  exact ⟨rfl, H.below⟩

theorem has_8 (h : Int) (a : UInt8) (c o : Int) (A B : Option Addr) (n cA m cB : Nat) (w : World) :
    Calls Tryd.prog 10 #[.agg #[.int .u8 8, .int .i64 h, .int .u8 (a.toNat : Int), .int .i64 c, .int .i64 o, .slice A n cA, .slice B m cB]] w fun e w' => e = .returned (.int .i64 (n : Int)) ∧ Below w.heap.size w w' := by
  have HA := (St.start_lay w []).allocAt 0 rfl w.heap.size rfl #[.int .u8 8, .int .i64 h, .int .u8 (a.toNat : Int), .int .i64 c, .int .i64 o, .slice A n cA, .slice B m cB] 28 |>.push_mk rfl
  go_enter Tryd.func10, Tryd.ntmps10
  go_upto_region 1 with (fail)
  refine absorb_wp HA ?_
  clear HA
  intro w2 H
  generalize w.heap.size = g at H ⊢
  replace H : St w [] w2 (lay [.blk g 28 [.int .u8 8, .int .i64 h, .int .u8 (a.toNat : Int), .int .i64 c, .int .i64 o, .slice A n cA, .slice B m cB]]) := H
  have c0 := H.cell 0 rfl (o := 0) (u := .int .u8 8) rfl
  have c5 := H.cell 0 rfl (o := 5) (u := .slice A n cA) rfl
  have c6 := H.cell 0 rfl (o := 6) (u := .slice B m cB) rfl
  go_wp2
  go_ret
  exact ⟨rfl, H.below⟩

theorem has_7 (h : Int) (a : UInt8) (c o : Int) (A B : Option Addr) (n cA m cB : Nat) (w : World) (hn : n ≤ 140737488355328) (hm : m ≤ 140737488355328) :
    Calls Tryd.prog 10 #[.agg #[.int .u8 7, .int .i64 h, .int .u8 (a.toNat : Int), .int .i64 c, .int .i64 o, .slice A n cA, .slice B m cB]] w fun e w' => e = .returned (.int .i64 ((n : Int) + m)) ∧ Below w.heap.size w w' := by
  have ww : IntKind.i64.wrap ((n : Int) + m) = (n : Int) + m := IntWalk.i64_in _ (by omega)
  have HA := (St.start_lay w []).allocAt 0 rfl w.heap.size rfl #[.int .u8 7, .int .i64 h, .int .u8 (a.toNat : Int), .int .i64 c, .int .i64 o, .slice A n cA, .slice B m cB] 28 |>.push_mk rfl
  go_enter Tryd.func10, Tryd.ntmps10
  go_upto_region 1 with (fail)
  refine absorb_wp HA ?_
  clear HA
  intro w2 H
  generalize w.heap.size = g at H ⊢
  replace H : St w [] w2 (lay [.blk g 28 [.int .u8 7, .int .i64 h, .int .u8 (a.toNat : Int), .int .i64 c, .int .i64 o, .slice A n cA, .slice B m cB]]) := H
  have c0 := H.cell 0 rfl (o := 0) (u := .int .u8 7) rfl
  have c5 := H.cell 0 rfl (o := 5) (u := .slice A n cA) rfl
  have c6 := H.cell 0 rfl (o := 6) (u := .slice B m cB) rfl
  go_wp2
  go_ret
  exact ⟨rfl, H.below⟩

theorem has_no (k : UInt8) (h : Int) (a : UInt8) (c o : Int) (A B : Option Addr) (n cA m cB : Nat) (w : World) (h1 : k ≠ 1) (h2 : k ≠ 2) (h3 : k ≠ 3) (h5 : k ≠ 5) (h7 : k ≠ 7) (h8 : k ≠ 8) :
    Calls Tryd.prog 10 #[.agg #[.int .u8 (k.toNat : Int), .int .i64 h, .int .u8 (a.toNat : Int), .int .i64 c, .int .i64 o, .slice A n cA, .slice B m cB]] w fun e w' => e = .returned (.int .i64 0) ∧ Below w.heap.size w w' := by
  have e1 := u8_is k 1 h1 1 rfl
  have e2 := u8_is k 2 h2 2 rfl
  have e3 := u8_is k 3 h3 3 rfl
  have e5 := u8_is k 5 h5 5 rfl
  have e7 := u8_is k 7 h7 7 rfl
  have e8 := u8_is k 8 h8 8 rfl
  have HA := (St.start_lay w []).allocAt 0 rfl w.heap.size rfl #[.int .u8 (k.toNat : Int), .int .i64 h, .int .u8 (a.toNat : Int), .int .i64 c, .int .i64 o, .slice A n cA, .slice B m cB] 28 |>.push_mk rfl
  go_enter Tryd.func10, Tryd.ntmps10
  go_upto_region 1 with (fail)
  refine absorb_wp HA ?_
  clear HA
  intro w2 H
  generalize w.heap.size = g at H ⊢
  replace H : St w [] w2 (lay [.blk g 28 [.int .u8 (k.toNat : Int), .int .i64 h, .int .u8 (a.toNat : Int), .int .i64 c, .int .i64 o, .slice A n cA, .slice B m cB]]) := H
  have c0 := H.cell 0 rfl (o := 0) (u := .int .u8 (k.toNat : Int)) rfl
  have c5 := H.cell 0 rfl (o := 5) (u := .slice A n cA) rfl
  have c6 := H.cell 0 rfl (o := 6) (u := .slice B m cB) rfl
  go_wp2
  go_ret
  exact ⟨rfl, H.below⟩

theorem has_s (s : OpR) (w : World) (hn : s.n ≤ 140737488355328) (hm : s.m ≤ 140737488355328) :
    Calls Tryd.prog 10 #[opV s.k s.h s.a s.c s.o (.slice s.A s.n s.cA) (.slice s.B s.m s.cB)] w fun e w' => e = .returned (.int .i64 (hasN s : Int)) ∧ Below w.heap.size w w' := by
  obtain ⟨k, h, a, c, o, A, n, cA, B, m, cB, xs, ys⟩ := s
  simp only at hn hm ⊢
  by_cases h1 : k = 1
  · subst h1
    refine (has_1 h a c o A B n cA m cB w).mono ?_
    rintro e w' ⟨rfl, hb⟩
    exact ⟨rfl, hb⟩
  by_cases h2 : k = 2
  · subst h2
    refine (has_2 h a c o A B n cA m cB w).mono ?_
    rintro e w' ⟨rfl, hb⟩
    exact ⟨rfl, hb⟩
  by_cases h3 : k = 3
  · subst h3
    refine (has_3 h a c o A B n cA m cB w).mono ?_
    rintro e w' ⟨rfl, hb⟩
    exact ⟨rfl, hb⟩
  by_cases h5 : k = 5
  · subst h5
    refine (has_5 h a c o A B n cA m cB w).mono ?_
    rintro e w' ⟨rfl, hb⟩
    exact ⟨rfl, hb⟩
  by_cases h8 : k = 8
  · subst h8
    refine (has_8 h a c o A B n cA m cB w).mono ?_
    rintro e w' ⟨rfl, hb⟩
    exact ⟨rfl, hb⟩
  by_cases h7 : k = 7
  · subst h7
    refine (has_7 h a c o A B n cA m cB w hn hm).mono ?_
    rintro e w' ⟨rfl, hb⟩
    refine ⟨?_, hb⟩
    show Ending.returned (.int .i64 ((n : Int) + m)) = Ending.returned (.int .i64 ((n + m : Nat) : Int))
    rw [Int.natCast_add]
  · refine (has_no k h a c o A B n cA m cB w h1 h2 h3 h5 h7 h8).mono ?_
    rintro e w' ⟨rfl, hb⟩
    refine ⟨?_, hb⟩
    have e4 : 4 ∉ usesOf k := by unfold usesOf; simp only [h1, h2, h3, h5, h7, h8, if_false]; repeat' split
                                 all_goals decide
    have e5 : 5 ∉ usesOf k := by unfold usesOf; simp only [h1, h2, h3, h5, h7, h8, if_false]; repeat' split
                                 all_goals decide
    show _ = Ending.returned (.int .i64 ((hasN ⟨k, h, a, c, o, A, n, cA, B, m, cB, xs, ys⟩ : Nat) : Int))
    unfold hasN
    rw [if_neg e4, if_neg e5]
    rfl

end Go.Proofs.YtenmlkgamlafpaaDoor
