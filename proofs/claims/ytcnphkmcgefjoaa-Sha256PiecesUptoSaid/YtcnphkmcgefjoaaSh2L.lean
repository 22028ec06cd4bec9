/- SHA-256: the digest of bytes; what is no state. -/
import Derived.Test.YtcnphkmcgefjoaaSh2D
import Derived.Test.YtcnphkmcgefjoaaLit
namespace Go.Proofs.Ytcnphkmcgefjoaa
open Go.RowKit
set_option linter.unusedVariables false
set_option maxRecDepth 100000

theorem St.one_more2 {w0 w w' : World} {F0 F : List Nat} {E : Env} {A R A0 : Own} {i k : Nat} (hi : E i = some A0) (hk : E k = none)
    (hback : ∀ (w' : World) (A' : Own), St w F w' (one A') → St w0 F0 w' (upd E i A')) (H : St w F w' (lay [A, R])) : St w0 F0 w' (upd (upd E i A) k R) := by
  have hki : k ≠ i := fun e => by rw [e, hi] at hk; cases hk
  have H1 := H.join 0 1 (by omega) rfl rfl
  have H2 : St w F w' (one (.sep A R)) := H1.sub fun n C hC => by
    simp only [one, upd, Env.nil] at hC
    by_cases h0 : n = 0
    · subst h0; rw [if_pos rfl] at hC; rw [← hC]; rfl
    · rw [if_neg h0] at hC; cases hC
  have H3 := hback _ _ H2
  have H4 := H3.part (A := A) (B := R) i k (Ne.symm hki) (by simp [upd]) (by simp [upd, hki, hk])
  refine H4.env fun n => ?_
  simp only [upd]
  by_cases h1 : n = k
  · simp [h1]
  · by_cases h3 : n = i <;> simp [h1, h3]

attribute [local irreducible] comp2 hTo

/-- how many blocks the digest of n bytes takes -/
def allN (n : Nat) : Nat := n / 64 + lastN n

section
variable {w0 w : World} {F0 : List Nat} {E : Env}

set_option maxHeartbeats 4000000 in
theorem sh2Fn_s (l : Value) (r : Option (List RunT)) (m : Nat) (c : Int) (A : Option Addr) (n cA : Nat) (p : List UInt8) (H : St w0 F0 w E) (i k0 : Nat) (hi : E i = some (led l r)) (hk : E k0 = none) (hg : LW r m c) (hm : m ≤ 99999999) (hc : c ≤ 300000000000000000)
    (hR : ∀ w' X, St w0 F0 w' (upd E i X) → Rd w' 1 A n (p.map vb)) (hcap : n ≤ cA) (hn : n ≤ 281474976710000) :
    Calls Try.prog 12 #[l, .slice A n cA] w fun e w' => ∃ v, e = .returned v ∧ St w0 F0 w' (upd (upd E i (led l (noteN r 1 64 (allN n)))) k0 (.row 5 1 v 32 ((dig2 p).map vb))) := by
  have hl : p.length = n := by have h := (hR w _ (by rw [upd_id hi]; exact H)).1; simpa using h
  obtain ⟨F, HF, -, -, hback⟩ := H.frame1 i hi
  have HB := Lib.hid hback
  have HR0 : Hid (∀ w' X, St w F w' (lay [X]) → Rd w' 1 A n (p.map vb)) := fun w' X h => hR w' X (hback w' X (h.to1 rfl))
  have HI := Lib.hid hi
  have HK := Lib.hid hk
  have HG := Lib.hid hg
  have HL := Lib.hid hl
  replace HF := HF.as1
  clear H hback hi hk hR hl hg
  have hnb : n / 64 ≤ n := Nat.div_le_self _ _
  go_enter Try.func12, Try.ntmps12
  go_wp2_with fail
  refine (sh2New_s HF 1 rfl).mono ?_
  rintro e w1 ⟨g, rfl, H1⟩
  replace H1 := H1.push_mk rfl
  clear HF
  unfold lptr
  go_wp2_with fail
  refine (sh2Put_s l r m c g [] A n cA p H1 0 1 (by omega) rfl rfl HG.out (by omega) (by omega) (fun w' X Y h => HR0.out w' X (h.sub fun k C hC => by
    match k, hC with
    | 0, hC => simp only [lay, List.getElem?_cons_zero, Option.some.injEq] at hC; subst hC; rfl
    | k + 1, hC => simp [lay] at hC)) hcap (by rw [List.length_nil]; omega)).mono ?_
  rintro e w2 ⟨rfl, H2⟩
  rw [upd_laid2 (by simp), upd_laid2 (by simp), List.length_nil, Nat.zero_add, Nat.zero_div, Nat.sub_zero, List.nil_append] at H2
  clear H1
  go_wp2_with fail
  refine (sh2Sum_s l _ (m + 1) (c + ((n / 64 : Nat) : Int)) g p H2 0 1 2 (by omega) rfl rfl rfl (HG.out.noteN 1 64 _) (by omega) (by omega) (by rw [HL.out]; omega)).mono ?_
  rintro e w3 ⟨v, rfl, H3⟩
  rw [noteN_noteN, HL.out, upd_laid2 (by simp), upd_laid2 (by simp)] at H3
  replace H3 := H3.push_mk rfl
  clear H2
  have H4 : St w F w3 (lay [led l (noteN r 1 64 (allN n)), .row 5 1 v 32 ((dig2 p).map vb)]) := H3.permS [0, 2] 2 rfl (by decide) (fun i hi => by
    match i, hi with
    | 0, _ => rfl
    | 1, _ => rfl)
  clear H3
  obtain ⟨A3, c3, rfl, -, -⟩ := row_form (H4.row 1 rfl)
  go_wp2
  go_ret
  exact ⟨_, rfl, St.one_more2 HI.out HK.out HB.out H4⟩

end

/-- nil, or a state that nobody made -/
def Sh2No (w : World) (s : Value) : Prop := s = .pointer none ∨ ∃ g, s = lptr g ∧ w.cell? ⟨g, 73, none⟩ = some (.bool false)

theorem sh2Below {w w' : World} {a : Addr} {v : Value} (hb : Below w.heap.size w w') (h : w.cell? a = some v) : w'.cell? a = some v := by
  rw [hb.cell (World.block_lt_of_cell? w _ h)]; exact h

theorem Sh2No.below {w w' : World} {s : Value} (h : Sh2No w s) (hb : Below w.heap.size w w') : Sh2No w' s := by
  rcases h with rfl | ⟨g, rfl, c0⟩
  · exact .inl rfl
  · exact .inr ⟨g, rfl, sh2Below hb c0⟩

theorem St.sh2No {w0 w : World} {F0 : List Nat} {E : Env} {g : Nat} (H : St w0 F0 w E) (k : Nat) (hk : E k = some (.blk g 77 shZ)) : Sh2No w (lptr g) :=
  .inr ⟨g, rfl, H.cell k hk rfl⟩

section
variable {w : World}

theorem sh2Sum_none (l : Value) (s : Value) (h : Sh2No w s) : Calls Try.prog 25 #[s, l] w fun e w' => e = .returned (.tuple #[.slice none 0 0, .int .i64 1]) ∧ w = w' := by
  rcases h with rfl | ⟨g, rfl, c0⟩
  · go_enter Try.func25, Try.ntmps25
    go_wp2_with fail
    refine (sh2None_nil w).mono ?_
    rintro e w1 ⟨rfl, rfl⟩
    go_wp2
    go_ret2
    exact ⟨rfl, rfl⟩
  · go_enter Try.func25, Try.ntmps25
    go_wp2_with fail
    refine (sh2None_off g w c0).mono ?_
    rintro e w1 ⟨rfl, rfl⟩
    go_wp2
    go_ret2
    exact ⟨rfl, rfl⟩

theorem sh2Clone_none (s : Value) (h : Sh2No w s) : Calls Try.prog 33 #[s] w fun e w' => e = .returned (.tuple #[.pointer none, .int .i64 1]) ∧ w = w' := by
  rcases h with rfl | ⟨g, rfl, c0⟩
  · go_enter Try.func33, Try.ntmps33
    go_wp2_with fail
    refine (sh2None_nil w).mono ?_
    rintro e w1 ⟨rfl, rfl⟩
    go_wp2
    go_ret2
    exact ⟨rfl, rfl⟩
  · go_enter Try.func33, Try.ntmps33
    go_wp2_with fail
    refine (sh2None_off g w c0).mono ?_
    rintro e w1 ⟨rfl, rfl⟩
    go_wp2
    go_ret2
    exact ⟨rfl, rfl⟩

theorem sh2Write_none (l v : Value) (s : Value) (h : Sh2No w s) : Calls Try.prog 23 #[s, l, v] w fun e w' => e = .returned (.int .i64 1) ∧ w = w' := by
  rcases h with rfl | ⟨g, rfl, c0⟩
  · go_enter Try.func23, Try.ntmps23
    go_wp2_with fail
    refine (sh2None_nil w).mono ?_
    rintro e w1 ⟨rfl, rfl⟩
    go_wp2
    go_ret
    exact ⟨rfl, rfl⟩
  · go_enter Try.func23, Try.ntmps23
    go_wp2_with fail
    refine (sh2None_off g w c0).mono ?_
    rintro e w1 ⟨rfl, rfl⟩
    go_wp2
    go_ret
    exact ⟨rfl, rfl⟩

theorem sh2Reset_none (s : Value) (h : Sh2No w s) : Calls Try.prog 35 #[s] w fun e w' => e = .returned (.int .i64 1) ∧ w = w' := by
  rcases h with rfl | ⟨g, rfl, c0⟩
  · go_enter Try.func35, Try.ntmps35
    go_wp2_with fail
    refine (sh2None_nil w).mono ?_
    rintro e w1 ⟨rfl, rfl⟩
    go_wp2
    go_ret
    exact ⟨rfl, rfl⟩
  · go_enter Try.func35, Try.ntmps35
    go_wp2_with fail
    refine (sh2None_off g w c0).mono ?_
    rintro e w1 ⟨rfl, rfl⟩
    go_wp2
    go_ret
    exact ⟨rfl, rfl⟩

theorem sh2Wipe_none (l : Value) (s : Value) (h : Sh2No w s) : Calls Try.prog 34 #[s, l] w fun e w' => e = .returned (.int .i64 1) ∧ w = w' := by
  rcases h with rfl | ⟨g, rfl, c0⟩
  · go_enter Try.func34, Try.ntmps34
    go_wp2_with fail
    refine (sh2None_nil w).mono ?_
    rintro e w1 ⟨rfl, rfl⟩
    go_wp2
    go_ret
    exact ⟨rfl, rfl⟩
  · go_enter Try.func34, Try.ntmps34
    go_wp2_with fail
    refine (sh2None_off g w c0).mono ?_
    rintro e w1 ⟨rfl, rfl⟩
    go_wp2
    go_ret
    exact ⟨rfl, rfl⟩

theorem sh2Form_none (s : Value) (h : Sh2No w s) : Calls Try.prog 22 #[s] w fun e w' => e = .returned (.slice none 0 0) ∧ w = w' := by
  rcases h with rfl | ⟨g, rfl, c0⟩
  · go_enter Try.func22, Try.ntmps22
    go_wp2_with fail
    refine (sh2None_nil w).mono ?_
    rintro e w1 ⟨rfl, rfl⟩
    go_wp2
    go_ret
    exact ⟨rfl, rfl⟩
  · go_enter Try.func22, Try.ntmps22
    go_wp2_with fail
    refine (sh2None_off g w c0).mono ?_
    rintro e w1 ⟨rfl, rfl⟩
    go_wp2
    go_ret
    exact ⟨rfl, rfl⟩

theorem sh2Len_none (s : Value) (h : Sh2No w s) : Calls Try.prog 27 #[s] w fun e w' => e = .returned (.int .i64 0) ∧ w = w' := by
  rcases h with rfl | ⟨g, rfl, c0⟩
  · go_enter Try.func27, Try.ntmps27
    go_wp2_with fail
    refine (sh2None_nil w).mono ?_
    rintro e w1 ⟨rfl, rfl⟩
    go_wp2
    go_ret
    exact ⟨rfl, rfl⟩
  · go_enter Try.func27, Try.ntmps27
    go_wp2_with fail
    refine (sh2None_off g w c0).mono ?_
    rintro e w1 ⟨rfl, rfl⟩
    go_wp2
    go_ret
    exact ⟨rfl, rfl⟩

end
end Go.Proofs.Ytcnphkmcgefjoaa
