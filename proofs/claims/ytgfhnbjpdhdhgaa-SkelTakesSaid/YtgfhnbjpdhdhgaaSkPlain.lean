/- skel's plain: a skeleton with the fields alone that its kind uses. -/
import Derived.Test.YtgfhnbjpdhdhgaaSkUses
import Derived.Test.YtgfhnbjpdhdhgaaHeld
namespace Go.Proofs.Ytgfhnbjpdhdhgaa
open Go.RowKit
set_option linter.unusedVariables false

/-- field i of s laid into t -/
def setF : Nat → SkT → SkT → SkT
  | 1, (s1, s2, s3, s4, s5, s6, s7), (t1, t2, t3, t4, t5, t6, t7) => (t1, s2, t3, t4, t5, t6, t7)
  | 2, (s1, s2, s3, s4, s5, s6, s7), (t1, t2, t3, t4, t5, t6, t7) => (t1, t2, s3, t4, t5, t6, t7)
  | 3, (s1, s2, s3, s4, s5, s6, s7), (t1, t2, t3, t4, t5, t6, t7) => (t1, t2, t3, s4, t5, t6, t7)
  | 4, (s1, s2, s3, s4, s5, s6, s7), (t1, t2, t3, t4, t5, t6, t7) => (t1, t2, t3, t4, s5, t6, t7)
  | 5, (s1, s2, s3, s4, s5, s6, s7), (t1, t2, t3, t4, t5, t6, t7) => (t1, t2, t3, t4, t5, s6, t7)
  | _, (s1, s2, s3, s4, s5, s6, s7), (t1, t2, t3, t4, t5, t6, t7) => (t1, t2, t3, t4, t5, t6, s7)
def plainS (k : UInt8) (s : SkT) : SkT := (sku k).foldl (fun t i => setF i s t) ((k.toNat : Int), 0, 0, 0, 0, 0, 0)
theorem sk_addr {w : World} {e : TypeId} {size n c : Nat} {A : Option Addr} {xs : List Value} (h : w.ownsRow 0 e size (.slice A n c) n xs) (hn : 0 < n) : ∃ g, A = some ⟨g, 0, none⟩ := by
  rcases h.2 with ⟨h', h2⟩ | ⟨g', cap', cur, h', _⟩
  · omega
  · injection h' with h4 _; exact ⟨g', h4⟩
theorem sku_le (k : UInt8) : ∀ u ∈ sku k, 1 ≤ u ∧ u ≤ 6 := by
  intro u hu
  unfold sku at hu
  repeat' split at hu
  all_goals simp at hu; try omega
theorem sku_len (k : UInt8) : (sku k).length ≤ 5 := by
  unfold sku
  repeat' split
  all_goals simp
theorem set_1 {w0 w : World} {F0 : List Nat} {E : Env} {g : Nat} (s t : SkT) (H : St w0 F0 w E) (j : Nat) (hE : E j = some (.blk g 51 (skV t))) :
    Calls Try.prog 71 #[.agg (skV s).toArray, .pointer (some ⟨g, 0, none⟩)] w fun e w' => e = .returned (.tuple #[]) ∧ St w0 F0 w' (upd E j (.blk g 51 (skV (setF 1 s t)))) := by
  obtain ⟨s1, s2, s3, s4, s5, s6, s7⟩ := s
  obtain ⟨t1, t2, t3, t4, t5, t6, t7⟩ := t
  obtain ⟨F, HF, -, -, hback⟩ := H.frame1 j hE
  have HB := Lib.hid hback
  clear hback H
  have H1 := HF.as1
  clear HF
  have c0 := H1.cell 0 rfl (o := 1) rfl
  have c1 := H1.free 0 rfl 1
  have c2 := H1.lt 0 rfl
  simp only [skV] at c0 ⊢
  go_enter Try.func71, Try.ntmps71
  go_wp2
  go_end0
  refine ⟨rfl, HB.out _ _ ?_⟩
  exact ((((H1.store 0 rfl (o := 1) (u := .int .i64 s2)).upd_mk (by simp)).allocAt 1 rfl w.heap.size (by simp [World.setCell]) #[.int .u8 s1, .int .i64 s2, .int .u8 s3, .int .i64 s4, .int .i64 s5, .int .i64 s6, .int .i64 s7] 51).push_mk rfl).to1 rfl
theorem set_2 {w0 w : World} {F0 : List Nat} {E : Env} {g : Nat} (s t : SkT) (H : St w0 F0 w E) (j : Nat) (hE : E j = some (.blk g 51 (skV t))) :
    Calls Try.prog 72 #[.agg (skV s).toArray, .pointer (some ⟨g, 0, none⟩)] w fun e w' => e = .returned (.tuple #[]) ∧ St w0 F0 w' (upd E j (.blk g 51 (skV (setF 2 s t)))) := by
  obtain ⟨s1, s2, s3, s4, s5, s6, s7⟩ := s
  obtain ⟨t1, t2, t3, t4, t5, t6, t7⟩ := t
  obtain ⟨F, HF, -, -, hback⟩ := H.frame1 j hE
  have HB := Lib.hid hback
  clear hback H
  have H1 := HF.as1
  clear HF
  have c0 := H1.cell 0 rfl (o := 2) rfl
  have c1 := H1.free 0 rfl 2
  have c2 := H1.lt 0 rfl
  simp only [skV] at c0 ⊢
  go_enter Try.func72, Try.ntmps72
  go_wp2
  go_end0
  refine ⟨rfl, HB.out _ _ ?_⟩
  exact ((((H1.store 0 rfl (o := 2) (u := .int .u8 s3)).upd_mk (by simp)).allocAt 1 rfl w.heap.size (by simp [World.setCell]) #[.int .u8 s1, .int .i64 s2, .int .u8 s3, .int .i64 s4, .int .i64 s5, .int .i64 s6, .int .i64 s7] 51).push_mk rfl).to1 rfl
theorem set_3 {w0 w : World} {F0 : List Nat} {E : Env} {g : Nat} (s t : SkT) (H : St w0 F0 w E) (j : Nat) (hE : E j = some (.blk g 51 (skV t))) :
    Calls Try.prog 73 #[.agg (skV s).toArray, .pointer (some ⟨g, 0, none⟩)] w fun e w' => e = .returned (.tuple #[]) ∧ St w0 F0 w' (upd E j (.blk g 51 (skV (setF 3 s t)))) := by
  obtain ⟨s1, s2, s3, s4, s5, s6, s7⟩ := s
  obtain ⟨t1, t2, t3, t4, t5, t6, t7⟩ := t
  obtain ⟨F, HF, -, -, hback⟩ := H.frame1 j hE
  have HB := Lib.hid hback
  clear hback H
  have H1 := HF.as1
  clear HF
  have c0 := H1.cell 0 rfl (o := 3) rfl
  have c1 := H1.free 0 rfl 3
  have c2 := H1.lt 0 rfl
  simp only [skV] at c0 ⊢
  go_enter Try.func73, Try.ntmps73
  go_wp2
  go_end0
  refine ⟨rfl, HB.out _ _ ?_⟩
  exact ((((H1.store 0 rfl (o := 3) (u := .int .i64 s4)).upd_mk (by simp)).allocAt 1 rfl w.heap.size (by simp [World.setCell]) #[.int .u8 s1, .int .i64 s2, .int .u8 s3, .int .i64 s4, .int .i64 s5, .int .i64 s6, .int .i64 s7] 51).push_mk rfl).to1 rfl
theorem set_4 {w0 w : World} {F0 : List Nat} {E : Env} {g : Nat} (s t : SkT) (H : St w0 F0 w E) (j : Nat) (hE : E j = some (.blk g 51 (skV t))) :
    Calls Try.prog 74 #[.agg (skV s).toArray, .pointer (some ⟨g, 0, none⟩)] w fun e w' => e = .returned (.tuple #[]) ∧ St w0 F0 w' (upd E j (.blk g 51 (skV (setF 4 s t)))) := by
  obtain ⟨s1, s2, s3, s4, s5, s6, s7⟩ := s
  obtain ⟨t1, t2, t3, t4, t5, t6, t7⟩ := t
  obtain ⟨F, HF, -, -, hback⟩ := H.frame1 j hE
  have HB := Lib.hid hback
  clear hback H
  have H1 := HF.as1
  clear HF
  have c0 := H1.cell 0 rfl (o := 4) rfl
  have c1 := H1.free 0 rfl 4
  have c2 := H1.lt 0 rfl
  simp only [skV] at c0 ⊢
  go_enter Try.func74, Try.ntmps74
  go_wp2
  go_end0
  refine ⟨rfl, HB.out _ _ ?_⟩
  exact ((((H1.store 0 rfl (o := 4) (u := .int .i64 s5)).upd_mk (by simp)).allocAt 1 rfl w.heap.size (by simp [World.setCell]) #[.int .u8 s1, .int .i64 s2, .int .u8 s3, .int .i64 s4, .int .i64 s5, .int .i64 s6, .int .i64 s7] 51).push_mk rfl).to1 rfl
theorem set_5 {w0 w : World} {F0 : List Nat} {E : Env} {g : Nat} (s t : SkT) (H : St w0 F0 w E) (j : Nat) (hE : E j = some (.blk g 51 (skV t))) :
    Calls Try.prog 75 #[.agg (skV s).toArray, .pointer (some ⟨g, 0, none⟩)] w fun e w' => e = .returned (.tuple #[]) ∧ St w0 F0 w' (upd E j (.blk g 51 (skV (setF 5 s t)))) := by
  obtain ⟨s1, s2, s3, s4, s5, s6, s7⟩ := s
  obtain ⟨t1, t2, t3, t4, t5, t6, t7⟩ := t
  obtain ⟨F, HF, -, -, hback⟩ := H.frame1 j hE
  have HB := Lib.hid hback
  clear hback H
  have H1 := HF.as1
  clear HF
  have c0 := H1.cell 0 rfl (o := 5) rfl
  have c1 := H1.free 0 rfl 5
  have c2 := H1.lt 0 rfl
  simp only [skV] at c0 ⊢
  go_enter Try.func75, Try.ntmps75
  go_wp2
  go_end0
  refine ⟨rfl, HB.out _ _ ?_⟩
  exact ((((H1.store 0 rfl (o := 5) (u := .int .i64 s6)).upd_mk (by simp)).allocAt 1 rfl w.heap.size (by simp [World.setCell]) #[.int .u8 s1, .int .i64 s2, .int .u8 s3, .int .i64 s4, .int .i64 s5, .int .i64 s6, .int .i64 s7] 51).push_mk rfl).to1 rfl
theorem set_6 {w0 w : World} {F0 : List Nat} {E : Env} {g : Nat} (s t : SkT) (H : St w0 F0 w E) (j : Nat) (hE : E j = some (.blk g 51 (skV t))) :
    Calls Try.prog 76 #[.agg (skV s).toArray, .pointer (some ⟨g, 0, none⟩)] w fun e w' => e = .returned (.tuple #[]) ∧ St w0 F0 w' (upd E j (.blk g 51 (skV (setF 6 s t)))) := by
  obtain ⟨s1, s2, s3, s4, s5, s6, s7⟩ := s
  obtain ⟨t1, t2, t3, t4, t5, t6, t7⟩ := t
  obtain ⟨F, HF, -, -, hback⟩ := H.frame1 j hE
  have HB := Lib.hid hback
  clear hback H
  have H1 := HF.as1
  clear HF
  have c0 := H1.cell 0 rfl (o := 6) rfl
  have c1 := H1.free 0 rfl 6
  have c2 := H1.lt 0 rfl
  simp only [skV] at c0 ⊢
  go_enter Try.func76, Try.ntmps76
  go_wp2
  go_end0
  refine ⟨rfl, HB.out _ _ ?_⟩
  exact ((((H1.store 0 rfl (o := 6) (u := .int .i64 s7)).upd_mk (by simp)).allocAt 1 rfl w.heap.size (by simp [World.setCell]) #[.int .u8 s1, .int .i64 s2, .int .u8 s3, .int .i64 s4, .int .i64 s5, .int .i64 s6, .int .i64 s7] 51).push_mk rfl).to1 rfl

theorem sk_size : (Try.prog.info? 51).map (·.size) = some 7 := by kernel_rfl
attribute [local irreducible] sku

set_option maxRecDepth 100000 in
set_option maxHeartbeats 4000000 in
theorem plain_s (k : UInt8) (s2 s3 s4 s5 s6 s7 : Int) (w : World) :
    Calls Try.prog 61 #[.agg (skV ((k.toNat : Int), s2, s3, s4, s5, s6, s7)).toArray] w fun e w' => e = .returned (.agg (skV (plainS k ((k.toNat : Int), s2, s3, s4, s5, s6, s7))).toArray) ∧ Below w.heap.size w w' := by
  have H0 := St.start_lay w []
  simp only [skV]
  go_enter Try.func61, Try.ntmps61
  go_wp2_with fail
  refine absorb_wp (H0.allocAt 0 rfl w.heap.size rfl _ _ |>.push_mk rfl |>.allocAt 1 rfl (w.heap.size + 1) (by simp) _ _ |>.push_mk rfl |>.allocAt 2 rfl (w.heap.size + 1 + 1) (by simp) _ _ |>.push_mk rfl) ?_
  intro w1 H
  generalize w.heap.size + 1 + 1 = gT at H ⊢
  generalize w.heap.size + 1 = gR at H ⊢
  generalize hga : w.heap.size = gA at H ⊢
  clear hga H0
  obtain ⟨s, hs⟩ : ∃ s : SkT, Hid (s = ((k.toNat : Int), s2, s3, s4, s5, s6, s7)) := ⟨_, rfl⟩
  replace H := H.drew
  refine wp_region_held_drew (S := fun w' : World => w'.cell? ⟨gA, 0, none⟩ = some (.int .u8 (k.toNat : Int))) (by kernel_rfl) (H.cell 0 rfl rfl) (fun hHeld => ?_)
  refine take_pure 5 (.int .i64 0) rfl (by kernel_rfl) (by kernel_rfl) (by kernel_rfl) (fun _ _ _ h => h) rfl (by intro w hSw; go_simp; try with_reducible rfl) (by assumption) ?_
  try simp only [Act.put, List.setIfInBounds_toArray, List.set_cons_zero, List.set_cons_succ]
  refine take_pure 1 (.pointer (some ⟨gA, 0, none⟩)) rfl (by kernel_rfl) (by kernel_rfl) (by kernel_rfl) (fun _ _ _ h => h) rfl (by intro w hSw; go_simp; try with_reducible rfl) (by assumption) ?_
  try simp only [Act.put, List.setIfInBounds_toArray, List.set_cons_zero, List.set_cons_succ]
  refine take_pure 2 (.int .u8 (k.toNat : Int)) rfl (by kernel_rfl) (by kernel_rfl) (by kernel_rfl) (fun _ _ _ h => h) rfl (by intro w hSw; go_simp; try with_reducible rfl) (by assumption) ?_
  try simp only [Act.put, List.setIfInBounds_toArray, List.set_cons_zero, List.set_cons_succ]
  refine take_call 0 rfl (by kernel_rfl) (fun K hK => ?_)
  try go_simp
  refine (skUses_s _).mono ?_
  rintro e w3 ⟨g, b1, b2, b3, b4, b5, b6, b7, b8, b9, b10, rfl, HN⟩
  replace H := H.also HN
  clear HN
  obtain ⟨A, hlook, H⟩ := sk_pick g b1 b2 b3 b4 b5 b6 b7 b8 b9 b10 k H
  refine hK.out _ _ (H.cell 0 rfl rfl) (fun hHeld => ?_)
  clear hK K
  try simp only [Act.put, List.setIfInBounds_toArray, List.set_cons_zero, List.set_cons_succ]
  refine take_call 3 rfl (by kernel_rfl) (fun K hK => ?_)
  try go_simp
  refine hK.out _ _ (H.cell 0 rfl rfl) (fun hHeld => ?_)
  clear hK K
  try simp only [Act.put, List.setIfInBounds_toArray, List.set_cons_zero, List.set_cons_succ]
  refine take_pure 4 (.int .i64 ((sku k).length : Int)) rfl (by kernel_rfl) (by kernel_rfl) (by kernel_rfl) (fun _ _ _ h => h) rfl (by intro w hSw; go_simp; try with_reducible rfl) (by assumption) ?_
  try simp only [Act.put, List.setIfInBounds_toArray, List.set_cons_zero, List.set_cons_succ]
  refine wpAnyH_done (by kernel_rfl) ?_ _
  clear hHeld hlook
  have hle := sku_le k
  have hll := sku_len k
  have hPL : plainS k s = (sku k).foldl (fun t i => setF i s t) ((k.toNat : Int), 0, 0, 0, 0, 0, 0) := rfl
  generalize sku k = fs at hle hll hPL H ⊢
  have HLE := Lib.hid hle
  have HPL := Lib.hid hPL
  clear hle hPL
  have hsv : [Value.int .u8 (k.toNat : Int), .int .i64 s2, .int .u8 s3, .int .i64 s4, .int .i64 s5, .int .i64 s6, .int .i64 s7] = skV s := by rw [hs.out]; rfl
  have HSV := Lib.hid hsv
  clear hsv
  replace H : St w [] w3 (lay [.blk gA 51 [.int .u8 (k.toNat : Int), .int .i64 s2, .int .u8 s3, .int .i64 s4, .int .i64 s5, .int .i64 s6, .int .i64 s7], .blk gR 51 [.int .u8 0, .int .i64 0, .int .u8 0, .int .i64 0, .int .i64 0, .int .i64 0, .int .i64 0], .blk gT 51 (skV ((k.toNat : Int), 0, 0, 0, 0, 0, 0)), .row 92 1 (.slice A fs.length fs.length) fs.length (fs.map skf)]) := H
  go_wp2_with fail
  go_loopw [5, 14] (fun _ i wr => ∃ j : Nat, j ≤ fs.length ∧ i = .int .i64 j ∧ St w [] wr (lay [.blk gA 51 [.int .u8 (k.toNat : Int), .int .i64 s2, .int .u8 s3, .int .i64 s4, .int .i64 s5, .int .i64 s6, .int .i64 s7], .blk gR 51 [.int .u8 0, .int .i64 0, .int .u8 0, .int .i64 0, .int .i64 0, .int .i64 0, .int .i64 0], .blk gT 51 (skV ((fs.take j).foldl (fun t i => setF i s t) ((k.toNat : Int), 0, 0, 0, 0, 0, 0))), .row 92 1 (.slice A fs.length fs.length) fs.length (fs.map skf)])) (fun _ i _ => fs.length - (intOf i).toNat)
  case atStart => exact ⟨0, Nat.zero_le _, rfl, H⟩
  case round =>
    clear H
    obtain ⟨j, hj, rfl, H⟩ := hrel
    by_cases hlt : j < fs.length
    · obtain ⟨f, hf⟩ : ∃ f, fs[j]? = some f := ⟨_, List.getElem?_eq_getElem hlt⟩
      have hf6 := HLE.out f (List.mem_of_getElem? hf)
      have hT : (fs.take (j + 1)).foldl (fun t i => setF i s t) ((k.toNat : Int), 0, 0, 0, 0, 0, 0) = setF f s ((fs.take j).foldl (fun t i => setF i s t) ((k.toNat : Int), 0, 0, 0, 0, 0, 0)) := by
        rw [List.take_add_one, hf, List.foldl_append]; rfl
      obtain ⟨gN, rfl⟩ := sk_addr (H.row 3 rfl) (by omega)
      have hc := World.ownsRow.cellAt (H.row 3 rfl) j (by omega)
      rw [List.getElem?_map, hf] at hc
      have HT := Lib.hid hT
      clear hT hf
      have hj1 : (j : Int) < fs.length := by omega
      generalize (fs.take j).foldl (fun t i => setF i s t) ((k.toNat : Int), 0, 0, 0, 0, 0, 0) = T at H HT
      have hb := H.blk 0 rfl
      have hcases : f = 1 ∨ f = 2 ∨ f = 3 ∨ f = 4 ∨ f = 5 ∨ f = 6 := by omega
      clear hf6
      rcases hcases with rfl | rfl | rfl | rfl | rfl | rfl
      · have hc' : wr.cell? ⟨gN, j, none⟩ = some (.func (.func 71) #[] #[]) := hc
        clear hc
        go_wp2_with (refine wpList_load_row rfl 51 (.tmp 1) rfl gA rfl _ _ _ _ hb Try.underlying51 rfl sk_size ?_)
        refine (set_1 ((k.toNat : Int), s2, s3, s4, s5, s6, s7) T H 2 rfl).mono ?_
        rintro e w4 ⟨rfl, H4⟩
        rw [← hs.out] at H4
        replace H4 := H4.upd_mk (by simp)
        go_wp2_with fail
        go_roundw
        case rel => exact ⟨j + 1, by omega, by go_num, by rw [HT.out]; exact H4⟩
        case measure => first | (simp [intOf]; omega) | simp [intOf]
      · have hc' : wr.cell? ⟨gN, j, none⟩ = some (.func (.func 72) #[] #[]) := hc
        clear hc
        go_wp2_with (refine wpList_load_row rfl 51 (.tmp 1) rfl gA rfl _ _ _ _ hb Try.underlying51 rfl sk_size ?_)
        refine (set_2 ((k.toNat : Int), s2, s3, s4, s5, s6, s7) T H 2 rfl).mono ?_
        rintro e w4 ⟨rfl, H4⟩
        rw [← hs.out] at H4
        replace H4 := H4.upd_mk (by simp)
        go_wp2_with fail
        go_roundw
        case rel => exact ⟨j + 1, by omega, by go_num, by rw [HT.out]; exact H4⟩
        case measure => first | (simp [intOf]; omega) | simp [intOf]
      · have hc' : wr.cell? ⟨gN, j, none⟩ = some (.func (.func 73) #[] #[]) := hc
        clear hc
        go_wp2_with (refine wpList_load_row rfl 51 (.tmp 1) rfl gA rfl _ _ _ _ hb Try.underlying51 rfl sk_size ?_)
        refine (set_3 ((k.toNat : Int), s2, s3, s4, s5, s6, s7) T H 2 rfl).mono ?_
        rintro e w4 ⟨rfl, H4⟩
        rw [← hs.out] at H4
        replace H4 := H4.upd_mk (by simp)
        go_wp2_with fail
        go_roundw
        case rel => exact ⟨j + 1, by omega, by go_num, by rw [HT.out]; exact H4⟩
        case measure => first | (simp [intOf]; omega) | simp [intOf]
      · have hc' : wr.cell? ⟨gN, j, none⟩ = some (.func (.func 74) #[] #[]) := hc
        clear hc
        go_wp2_with (refine wpList_load_row rfl 51 (.tmp 1) rfl gA rfl _ _ _ _ hb Try.underlying51 rfl sk_size ?_)
        refine (set_4 ((k.toNat : Int), s2, s3, s4, s5, s6, s7) T H 2 rfl).mono ?_
        rintro e w4 ⟨rfl, H4⟩
        rw [← hs.out] at H4
        replace H4 := H4.upd_mk (by simp)
        go_wp2_with fail
        go_roundw
        case rel => exact ⟨j + 1, by omega, by go_num, by rw [HT.out]; exact H4⟩
        case measure => first | (simp [intOf]; omega) | simp [intOf]
      · have hc' : wr.cell? ⟨gN, j, none⟩ = some (.func (.func 75) #[] #[]) := hc
        clear hc
        go_wp2_with (refine wpList_load_row rfl 51 (.tmp 1) rfl gA rfl _ _ _ _ hb Try.underlying51 rfl sk_size ?_)
        refine (set_5 ((k.toNat : Int), s2, s3, s4, s5, s6, s7) T H 2 rfl).mono ?_
        rintro e w4 ⟨rfl, H4⟩
        rw [← hs.out] at H4
        replace H4 := H4.upd_mk (by simp)
        go_wp2_with fail
        go_roundw
        case rel => exact ⟨j + 1, by omega, by go_num, by rw [HT.out]; exact H4⟩
        case measure => first | (simp [intOf]; omega) | simp [intOf]
      · have hc' : wr.cell? ⟨gN, j, none⟩ = some (.func (.func 76) #[] #[]) := hc
        clear hc
        go_wp2_with (refine wpList_load_row rfl 51 (.tmp 1) rfl gA rfl _ _ _ _ hb Try.underlying51 rfl sk_size ?_)
        refine (set_6 ((k.toNat : Int), s2, s3, s4, s5, s6, s7) T H 2 rfl).mono ?_
        rintro e w4 ⟨rfl, H4⟩
        rw [← hs.out] at H4
        replace H4 := H4.upd_mk (by simp)
        go_wp2_with fail
        go_roundw
        case rel => exact ⟨j + 1, by omega, by go_num, by rw [HT.out]; exact H4⟩
        case measure => first | (simp [intOf]; omega) | simp [intOf]
    · have hju : j = fs.length := by omega
      subst hju
      rw [List.take_length] at H
      obtain ⟨T, hT⟩ : ∃ T, Hid (fs.foldl (fun t i => setF i s t) ((k.toNat : Int), 0, 0, 0, 0, 0, 0) = T) := ⟨_, rfl⟩
      rw [hT.out] at H
      have hb := H.blk 2 rfl
      have ht := H.there 1 rfl
      obtain ⟨t1, t2, t3, t4, t5, t6, t7⟩ := T
      go_wp2_with (first | (refine wpList_load_row rfl 51 (.tmp 3) rfl gT rfl _ _ _ _ hb Try.underlying51 rfl sk_size ?_) | (refine wpList_store_mid rfl 51 (.tmp 2) (.tmp 22) rfl gR 0 (List.toArray (skV (t1, t2, t3, t4, t5, t6, t7))) rfl rfl ht sk_size (all_oneCell_toArray (by simpa [sksV] using sksV_one [(t1, t2, t3, t4, t5, t6, t7)])) ?_))
      have HY := (H.storeAll 1 rfl (vs := skV (t1, t2, t3, t4, t5, t6, t7)) rfl).upd_mk (by simp)
      refine bodyPost_ret (results_cell_row rfl _ _ gR 51 _ _ _ rfl (HY.blk 1 rfl) Try.underlying51 rfl sk_size) rfl ⟨?_, HY.below⟩
      have hq : plainS k ((k.toNat : Int), s2, s3, s4, s5, s6, s7) = (t1, t2, t3, t4, t5, t6, t7) := by rw [← hs.out, HPL.out, hT.out]
      rw [hq]
      rfl
end Go.Proofs.Ytgfhnbjpdhdhgaa
