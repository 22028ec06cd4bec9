/- The program's sponge: none, permute. -/
import Derived.Test.YtgjlclihgpahbaaSpP
import Derived.Laws.Cover3

namespace Go.Proofs.Ytgjlclihgpahbaa
open Go.RowKit
set_option linter.unusedVariables false
set_option maxRecDepth 100000

attribute [local irreducible] permB kBytes kPerm kFrom

theorem spNone_no (g : Nat) (r : Int) (w : World) (hc : w.cell? ⟨g, 200, none⟩ = some (.int .i64 r)) (hr : 1 ≤ r) :
    Calls Try.prog 32 #[lptr g] w fun e w' => e = .returned (.bool false) ∧ w = w' := by
  have h0 : (r == 0) = false := by simp; omega
  unfold lptr
  go_enter Try.func32, Try.ntmps32
  go_wp2
  go_ret
  exact ⟨rfl, rfl⟩

theorem spNone_nil (w : World) : Calls Try.prog 32 #[.pointer none] w fun e w' => e = .returned (.bool true) ∧ w = w' := by
  go_enter Try.func32, Try.ntmps32
  go_wp2
  go_ret
  exact ⟨rfl, rfl⟩

theorem spNone_yes (g : Nat) (w : World) (hc : w.cell? ⟨g, 200, none⟩ = some (.int .i64 0)) :
    Calls Try.prog 32 #[lptr g] w fun e w' => e = .returned (.bool true) ∧ w = w' := by
  unfold lptr
  go_enter Try.func32, Try.ntmps32
  go_wp2
  go_ret
  exact ⟨rfl, rfl⟩

/-- a slice as an array's pointer -/
theorem wpList_arrayAt {P : Program} {ops : Array Oper} {rest : List Oper} {o : Oper} {a : Act} {w : World} {Q : Exit → Act → World → Prop} (hgd : o.guard = none) (arr : TypeId) (x : Operand) (ho : o.op = .sliceToArrayPointer arr x)
    (e : TypeId) (n : Nat) (A : Option Addr) (len cap : Nat) (h : P.underlying arr = some (.array n e)) (hn : n ≤ len) (hx : a.eval x = .slice A len cap)
    (hk : wpList P ops Q rest (a.put o.dst (.pointer A)) w) : wpList P ops Q (o :: rest) a w :=
  wpList_plain hgd fun _ hK => by
    unfold Oper.wp execOp
    simp only [ho, hx, run_arrayAt w arr e n A len cap h hn, Sem.run_bind, Sem.run_pure, Result.andThen_ok]
    exact hK _ _ hk

section
variable {w0 w : World} {F0 : List Nat} {E : Env}

set_option maxHeartbeats 1000000 in
theorem spPermute_s (l : Value) (r : Option (List RunT)) (m : Nat) (b : Int) (g : Nat) (x : Sp) (H : St w0 F0 w E) (i j : Nat) (hij : i ≠ j) (hi : E i = some (led l r)) (hj : E j = some (.blk g 71 x.vs)) (hg : LW r m b) (hm : m ≤ 1000000000000) (hb : b ≤ 4611686018427387903) (hx : x.b.length = 200) :
    Calls Try.prog 33 #[lptr g, l] w fun e w' => e = .returned (.tuple #[]) ∧ St w0 F0 w' (upd (upd E i (led l (noteN r 3 200 1))) j (.blk g 71 x.perm.vs)) := by
  obtain ⟨F, HF, -, -, hback⟩ := H.frame2 i j hij hi hj
  have HB := Lib.hid hback
  replace HF := HF.as2
  clear H hback
  have HX := Lib.hid hx
  clear hx
  unfold lptr
  go_enter Try.func33, Try.ntmps33
  go_wp2_with (first | (refine wpList_arrayAt rfl 69 (.tmp 11) rfl 5 200 (some ⟨g, 0, none⟩) 200 200 Try.underlying69 (Nat.le_refl _) rfl ?_; refine wpList_load_mid rfl 69 (.tmp 12) rfl g 0 rfl (x.b.map vb) _ (range_front (HF.range 1 rfl)) Try.underlying69 rfl (by rw [bytes_size, List.length_map, HX.out]) ?_))
  refine (from_s x.b HX.out _).mono ?_
  rintro e w1 ⟨rfl, hb1⟩
  replace HF := HF.call hb1
  clear hb1
  go_wp2_with fail
  refine (permute_w l r m b (kFrom x.b) HF 0 rfl hg hm hb (kFrom_length _)).mono ?_
  rintro e w2 ⟨rfl, H2⟩
  replace H2 := H2.upd_mk (by simp)
  clear HF
  go_wp2_with fail
  refine (bytes_s _ (by unfold kPerm; rw [kPermTo_length, kFrom_length]) _).mono ?_
  rintro e w3 ⟨rfl, hb3⟩
  have H3 := H2.call hb3
  clear H2 hb3
  have HP : Hid (kBytes (kPerm (kFrom x.b)) = permB x.b) := by unfold Hid permB; rfl
  rw [HP.out]
  have HL := Lib.hid (permB_length x.b)
  clear HP
  have HE : Hid ((⟨permB x.b, x.r, x.f, 0, x.s⟩ : Sp) = x.perm) := by unfold Hid; rfl
  generalize permB x.b = B at HL HE
  have HT := H3.there 1 rfl
  rw [Sp.vs_length HX.out] at HT
  go_wp2_with (refine wpList_store_mid rfl 69 (.tmp 18) (.tmp 16) rfl g 0 (B.map vb).toArray rfl rfl (there_front HT (by simp [HL.out])) (by rw [bytes_size]; simp [HL.out]) (all_oneCell_toArray (vb_one _)) ?_; refine absorb_list (H3.storeMid 1 rfl 0 (vs := B.map vb) (by rw [Sp.vs_length HX.out, List.length_map, HL.out]; omega) |>.upd_mk (by simp)) ?_; clear H3 HT; intro w4 H4; (unfold Sp.vs at H4); rw [sp_front x.b _ B HX.out HL.out] at H4; have c4 := H4.cell 1 rfl (o := 202) ((sp_get B _ 2 HL.out rfl).trans rfl); have f4 := H4.free 1 rfl 202)
  go_end0
  refine ⟨rfl, ?_⟩
  have H5 := (H4.store 1 rfl (o := 202) (u := .int .i64 0)).upd_mk (by simp)
  rw [sp_put B _ 2 _ HL.out rfl] at H5
  rw [← HE.out]
  exact HB.out _ _ _ (H5.to2 rfl rfl)

end

end Go.Proofs.Ytgjlclihgpahbaa
