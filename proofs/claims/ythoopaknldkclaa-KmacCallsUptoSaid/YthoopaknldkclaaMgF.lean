/- Texts of this claim, merged: Cut, KmV, LawKmNm, LawKmT, Slot, KmAny, Pick, KmAct. -/
import Derived.Test.YthoopaknldkclaaRows
import Derived.Test.YthoopaknldkclaaMgE
set_option linter.unusedVariables false

namespace Go.Proofs.Ythoopaknldkclaa
open Go.RowKit
set_option linter.unusedVariables false
set_option maxRecDepth 100000

structure Pc where
  A : Option Addr
  n : Nat
  c : Nat
  l : List UInt8

def Pc.v (p : Pc) : Value := .slice p.A p.n p.c

def Pc.own (p : Pc) : Own := .row 5 1 (.slice p.A p.n p.c) p.n (p.l.map vb)

/-- bytes as pieces, each as long as the next number says -/
def cutB (p : List UInt8) : List UInt8 → List (List UInt8)
  | [] => [p]
  | c :: cs => if p = [] then [p] else p.take (c.toNat % 200) :: cutB (p.drop (c.toNat % 200)) cs

theorem cutB_nil (cs : List UInt8) : cutB [] cs = [[]] := by cases cs <;> rfl

theorem cutB_flat : ∀ (cs p : List UInt8), (cutB p cs).flatten = p := by
  intro cs
  induction cs with
  | nil => intro p; simp [cutB]
  | cons c cs ih =>
    intro p
    unfold cutB
    split
    · rename_i h; subst h; rfl
    · rw [List.flatten_cons, ih, List.take_append_drop]

theorem cutB_len : ∀ (cs p : List UInt8), (cutB p cs).length ≤ cs.length + 1 := by
  intro cs
  induction cs with
  | nil => intro p; simp [cutB]
  | cons c cs ih =>
    intro p
    unfold cutB
    split
    · simp
    · rw [List.length_cons, List.length_cons]
      have := ih (p.drop (c.toNat % 200))
      omega

theorem cutB_step {p cs : List UInt8} {k : Nat} {c : UInt8} (h : cs[k]? = some c) (hp : p ≠ []) : cutB p (cs.drop k) = p.take (c.toNat % 200) :: cutB (p.drop (c.toNat % 200)) (cs.drop (k + 1)) := by
  have hk : k < cs.length := (List.getElem?_eq_some_iff.1 h).1
  have e : cs.drop k = c :: cs.drop (k + 1) := by rw [List.drop_eq_getElem_cons hk, (List.getElem?_eq_some_iff.1 h).2]
  rw [e]
  show (if p = [] then [p] else _) = _
  rw [if_neg hp]

theorem cutB_end {p cs : List UInt8} {k : Nat} (h : k = cs.length ∨ p = []) : cutB p (cs.drop k) = [p] := by
  rcases h with rfl | rfl
  · rw [List.drop_length]; rfl
  · exact cutB_nil _

theorem Rd.drop_if {w : World} {b o n c x : Nat} {l : List UInt8} (h : Rd w 1 (some ⟨b, o, none⟩) n (l.map vb)) (hx : x ≤ n) (hc : n ≤ c) : Rd w 1 (if c = x then some ⟨b, o, none⟩ else some ⟨b, o + x, none⟩) (n - x) ((l.drop x).map vb) := by
  have hl : l.length = n := by have := h.1; simpa using this
  refine ⟨by simp [hl], fun hp => ?_⟩
  obtain ⟨ad, e, h1, h2⟩ := h.2 (by omega)
  injection e with e
  subst e
  refine ⟨⟨b, o + x, none⟩, if_neg (by omega), h1, fun j u hu => ?_⟩
  rw [List.map_drop, List.getElem?_drop] at hu
  have := h2 (x + j) u hu
  rw [Addr.add_mid] at this ⊢
  rw [Nat.add_assoc]
  exact this

set_option maxHeartbeats 4000000 in
theorem cutInto_s (A : Option Addr) (n c : Nat) (p : List UInt8) (B : Option Addr) (m d : Nat) (cs : List UInt8) (w : World) (hA : Rd w 1 A n (p.map vb)) (hB : Rd w 1 B m (cs.map vb)) (hn : n ≤ 100000000000) (hm : m ≤ 1000000000) (hc : n ≤ c) :
    Calls Try.prog 30 #[.slice A n c, .slice B m d] w fun e w' => ∃ V ps, e = .returned V ∧ ps.map Pc.l = cutB p cs ∧ St w [] w' (lay [.row 22 1 V ps.length (ps.map Pc.v), bigO Pc.own ps]) := by
  obtain ⟨i0, hi0, hz0, hz1', hz2'⟩ := info_parts lb_info
  have HM : Hid (cs.length = m) := by unfold Hid; have := hB.1; simpa using this
  have HBB := Lib.hid hB
  have H0 := (St.start_lay w []).nilRow 0 rfl 22 1 |>.push_mk rfl |>.nothing 1 rfl |>.push_mk rfl
  clear hB
  go_enter Try.func30, Try.ntmps30
  go_wp2
  go_loopw [0, 5, 6] (fun s V i wr => ∃ (k : Nat) (A' : Option Addr) (n' c' : Nat) (rest : List UInt8) (ps : List Pc), k ≤ m ∧ i = .int .i64 k ∧ s = .slice A' n' c' ∧ n' ≤ n ∧ n' ≤ c' ∧ Hid (ps.length = k) ∧ Hid (ps.map Pc.l ++ cutB rest (cs.drop k) = cutB p cs) ∧ Hid (Rd w 1 A' n' (rest.map vb)) ∧ St w [] wr (lay [.row 22 1 V k (ps.map Pc.v), bigO Pc.own ps])) (fun _ _ i _ => m - (intOf i).toNat)
  case atStart => exact ⟨0, A, n, c, p, [], Nat.zero_le _, rfl, rfl, Nat.le_refl _, hc, rfl, rfl, hA, H0⟩
  case round =>
    clear H0 hA hc
    obtain ⟨k, A', n', c', rest, ps, hk, rfl, rfl, hn', hc', HK, HP, HR, H⟩ := hrel
    have hl : rest.length = n' := by have := HR.out.1; simpa using this
    have HL := Lib.hid hl
    by_cases hgo : k < m ∧ 0 < n'
    · obtain ⟨hk1, hk2⟩ := hgo
      obtain ⟨b, o, rfl, -, -⟩ := HR.out.flat (by omega) (by omega)
      obtain ⟨cb, hcb⟩ : ∃ v, cs[k]? = some v := ⟨_, List.getElem?_eq_getElem (by rw [HM.out]; exact hk1)⟩
      obtain ⟨pb, ob, rfl, -, hcx⟩ := HBB.out.flat (by omega) (by omega)
      have a0 := (H.below).cell (p := ⟨pb, ob + k, none⟩) (World.block_lt_of_cell? w _ (hcx k (vb cb) (by rw [List.getElem?_map, hcb]; rfl)))
      rw [hcx k (vb cb) (by rw [List.getElem?_map, hcb]; rfl)] at a0
      have hne : rest ≠ [] := fun e => by rw [e] at hl; simp at hl; omega
      have HS := Lib.hid (cutB_step hcb hne)
      clear hcx hcb hne hl
      obtain ⟨q, hq⟩ : ∃ q, cb.toNat % 200 = q := ⟨_, rfl⟩
      rw [hq] at HS
      have HQV : Hid ((cb.toNat : Int) % 200 = (q : Int)) := by unfold Hid; omega
      have hqb : q ≤ 199 := by omega
      have hk3 : (k : Int) < m := by omega
      have hn3 : (0 : Int) < n' := by omega
      have HQ := Lib.hid hq
      clear hq
      have hcb : (cb.toNat : Int) ≤ 255 := by have := cb.toNat_lt; omega
      go_upto_region 6 with (fail)
      rw [HQV.out]
      clear HQV a0
      have HX1 : Hid (rest.take q = rest.take (min q n') ∧ rest.drop q = rest.drop (min q n')) := by
        unfold Hid
        rcases Nat.le_total q n' with h | h
        · rw [Nat.min_eq_left h]; exact ⟨rfl, rfl⟩
        · rw [Nat.min_eq_right h, List.take_of_length_le (by rw [HL.out]; exact h), List.take_of_length_le (by rw [HL.out]; exact Nat.le_refl _), List.drop_eq_nil_of_le (by rw [HL.out]; exact h), List.drop_eq_nil_of_le (by rw [HL.out]; exact Nat.le_refl _)]; exact ⟨rfl, rfl⟩
      have hx : min q n' ≤ n' := Nat.min_le_right _ _
      by_cases hqn : n' < q
      have hq1 : (q : Int) > n' := by omega
      go_upto_region 8 with (fail)
      rw [show ((n' : Nat) : Int) = ((min q n' : Nat) : Int) by rw [Nat.min_eq_right (by omega)]]
      clear hq1 hqn
      rotate_left
      have hq1 : ¬ (q : Int) > n' := by omega
      go_upto_region 8 with (fail)
      rw [show ((q : Nat) : Int) = ((min q n' : Nat) : Int) by rw [Nat.min_eq_left (by omega)]]
      clear hq1 hqn
      rotate_left
      all_goals
        rw [HX1.out.1, HX1.out.2] at HS
        clear HX1 HQ
        generalize min q n' = x at HS hx ⊢
        clear hqb
        have hxi : (x : Int) ≤ c' := by omega
        have hxn : (x : Int) ≤ n' := by omega
        have hrx := HR.out.take hx
        go_wp2_with fail
        refine (copyBytes_any (some ⟨b, o, none⟩) x c' (rest.take x) wr (H.arg0 hrx) (by omega)).mono ?_
        rintro e w2 ⟨v, rfl, ho, hb⟩
        have HLx : Hid ((rest.take x).length = x) := by unfold Hid; rw [List.length_take, HL.out]; omega
        obtain ⟨AV, cV, hV, -⟩ := row_form (H.row 0 rfl)
        subst hV
        replace H := (H.pushRow 2 rfl hb ho).push_mk rfl
        rw [HLx.out] at H
        clear ho hb hrx
        obtain ⟨A9, c9, rfl, -⟩ := row_form (H.row 2 rfl)
        replace H : St w [] w2 (lay [.row 22 1 (.slice AV k cV) k (ps.map Pc.v), bigO Pc.own ps, .row 5 1 (.slice A9 x c9) x ((rest.take x).map vb)]) := H
        go_wp2_with (at_builtin; refine hold_here' ?_)
        refine Lib.hid ?_
        refine absorb_list (H.allocAt 3 rfl w2.heap.size rfl #[.slice A9 x c9] 22 |>.push_mk rfl) ?_
        clear H
        intro w5 H
        generalize w2.heap.size = gN at H ⊢
        refine wpList_append_any _ rfl (.tmp 31) (.tmp 36) _ rfl 0 22 i0 _ 1 24 Try.underlying46 hi0 hz0 hz1' hz2' rfl (by omega) (.slice AV k cV) k (ps.map Pc.v) rfl (H.row 0 rfl) (some ⟨gN, 0, none⟩) 1 1 [.slice A9 x c9] rfl (H.rdBlk 3 rfl 1 1 rfl) (by intro u hu; simp at hu; subst hu; rfl) (by simp only [maxLen]; omega) (by omega) (by omega) ?_
        intro v6 w6 hown6 hg6 hat6
        replace H := ((H.grow 0 rfl hown6 hg6 hat6).upd_mk (by simp)).front 3
        clear hown6 hg6 hat6
        have H7 : St w [] w6 (lay [.row 22 1 v6 (k + 1) (ps.map Pc.v ++ [.slice A9 x c9]), bigO Pc.own ps, Pc.own ⟨A9, x, c9, rest.take x⟩]) := H
        replace H7 := H7.bigPush
        clear H
        have HD := Rd.drop_if HR.out hx hc'
        have HD2 := Lib.hid HD
        clear HD
        go_wp2
        go_roundw
        case rel => exact ⟨k + 1, _, n' - x, c' - x, rest.drop x, ps ++ [⟨A9, x, c9, rest.take x⟩], by omega, by go_num, rfl, by omega, by omega, by unfold Hid; rw [List.length_append, HK.out]; rfl, by unfold Hid; rw [List.map_append, List.append_assoc, ← HP.out, HS.out]; rfl, HD2.out, by rw [List.map_append]; exact H7⟩
        case measure => simp [intOf]; omega
    · have hend : k = m ∨ n' = 0 := by omega
      have HE : Hid (ps.map Pc.l ++ [rest] = cutB p cs) := by
        unfold Hid
        rw [← HP.out, cutB_end]
        rcases hend with h | h
        · exact .inl (by rw [HM.out]; exact h)
        · exact .inr (List.eq_nil_of_length_eq_zero (by rw [HL.out]; exact h))
      have hz : ((k : Int) < m ∧ (n' : Int) = 0) ∨ ¬ (k : Int) < m := by omega
      clear hend hgo
      rcases hz with ⟨hz1, hz2⟩ | hz1
      have hz4 : ¬ (n' : Int) > 0 := by omega
      clear hz2
      rotate_left
      all_goals
        obtain ⟨AV, cV, hV, -⟩ := row_form (H.row 0 rfl)
        subst hV
        go_wp2_with fail
        refine (copyBytes_any A' n' c' rest wr (H.arg0 HR.out) (by omega)).mono ?_
        rintro e w2 ⟨v, rfl, ho, hb⟩
        replace H := (H.pushRow 2 rfl hb ho).push_mk rfl
        rw [HL.out] at H
        clear ho hb
        obtain ⟨A9, c9, rfl, -⟩ := row_form (H.row 2 rfl)
        replace H : St w [] w2 (lay [.row 22 1 (.slice AV k cV) k (ps.map Pc.v), bigO Pc.own ps, .row 5 1 (.slice A9 n' c9) n' (rest.map vb)]) := H
        go_wp2_with (at_builtin; refine hold_here' ?_)
        refine Lib.hid ?_
        refine absorb_list (H.allocAt 3 rfl w2.heap.size rfl #[.slice A9 n' c9] 22 |>.push_mk rfl) ?_
        clear H
        intro w5 H
        generalize w2.heap.size = gN at H ⊢
        refine wpList_append_any _ rfl (.tmp 41) (.tmp 44) _ rfl 0 22 i0 _ 1 24 Try.underlying46 hi0 hz0 hz1' hz2' rfl (by omega) (.slice AV k cV) k (ps.map Pc.v) rfl (H.row 0 rfl) (some ⟨gN, 0, none⟩) 1 1 [.slice A9 n' c9] rfl (H.rdBlk 3 rfl 1 1 rfl) (by intro u hu; simp at hu; subst hu; rfl) (by simp only [maxLen]; omega) (by omega) (by omega) ?_
        intro v6 w6 hown6 hg6 hat6
        replace H := ((H.grow 0 rfl hown6 hg6 hat6).upd_mk (by simp)).front 3
        clear hown6 hg6 hat6
        have H7 : St w [] w6 (lay [.row 22 1 v6 (k + 1) (ps.map Pc.v ++ [.slice A9 n' c9]), bigO Pc.own ps, Pc.own ⟨A9, n', c9, rest⟩]) := H
        replace H7 := H7.bigPush
        clear H
        go_wp2
        go_ret
        refine ⟨_, ps ++ [⟨A9, n', c9, rest⟩], rfl, by rw [List.map_append]; exact HE.out, ?_⟩
        rw [List.length_append, HK.out, List.map_append]
        exact H7

end Go.Proofs.Ythoopaknldkclaa

namespace Go.Proofs.Ythoopaknldkclaa
set_option maxRecDepth 100000

def kmCus : List UInt8 := [77, 121, 32, 84, 97, 103, 103, 101, 100, 32, 65, 112, 112, 108, 105, 99, 97, 116, 105, 111, 110]

theorem kmTag_v0 : ((kmTagB 168 kmKey [] kmMsg 32 false).take 4, (kmTagB 168 kmKey [] kmMsg 32 false).drop 28) = ([229, 120, 11, 13], [69, 110, 225, 78]) := by decide +kernel
theorem kmTag_v1 : ((kmTagB 168 kmKey kmCus kmMsg 32 false).take 4, (kmTagB 168 kmKey kmCus kmMsg 32 false).drop 28) = ([59, 31, 186, 150], [17, 50, 74, 165]) := by decide +kernel
theorem kmTag_v2 : ((kmTagB 136 kmKey kmCus kmMsg 64 false).take 4, (kmTagB 136 kmKey kmCus kmMsg 64 false).drop 60) = ([32, 197, 112, 195], [119, 115, 168, 221]) := by decide +kernel
theorem kmTag_v3 : ((kmTagB 168 kmKey [] kmMsg 32 true).take 4, (kmTagB 168 kmKey [] kmMsg 32 true).drop 28) = ([205, 131, 116, 11], [172, 214, 236, 53]) := by decide +kernel
theorem kmN_v : kmN 168 kmKey [] = 2 := by decide +kernel
end Go.Proofs.Ythoopaknldkclaa

namespace Go.Proofs.Ythoopaknldkclaa
open Go.RowKit
set_option linter.unusedVariables false
set_option maxRecDepth 100000

attribute [local irreducible] permB kBytes kPerm kFrom

theorem St.drop2 {w0 w : World} {F0 : List Nat} {L : List Own} {X Y A : Own} (H : St w0 F0 w (lay (L ++ [X, Y, A]))) : St w0 F0 w (lay (L ++ [A])) :=
  H.pick (fun i => if i < L.length then i else i + 2) (fun i j h => by split at h <;> split at h <;> omega) fun k C hC => by
    simp only [lay] at hC ⊢
    by_cases hk : k < L.length
    · rw [if_pos hk, List.getElem?_append_left hk]
      rwa [List.getElem?_append_left hk] at hC
    · rw [if_neg hk, List.getElem?_append_right (by omega)]
      rw [List.getElem?_append_right (by omega)] at hC
      have e : k - L.length = 0 := by
        have := (List.getElem?_eq_some_iff.1 hC).1
        simp at this
        exact this
      rw [show k + 2 - L.length = 2 by omega]
      rw [e] at hC
      exact hC

set_option maxHeartbeats 16000000 in
theorem kmacNames_walk (w : World) : Calls Try.prog 4 #[] w fun e w' => e = .returned (.bool true) ∧ Below w.heap.size w w' := by
  have hcv := fun (w : World) (C : Array Value) (n c : Nat) => Lib.run_convert_bytes_const (P := Try.prog) w 22 5 C n c Try.underlying22 Try.underlying5
  have HN := Lib.hid kmN_v
  have HV0 := Lib.hid kmTag_v0
  have HV1 := Lib.hid kmTag_v1
  have HV2 := Lib.hid kmTag_v2
  have HV3 := Lib.hid kmTag_v3
  have H := (St.start_lay w []).ledNil 0 rfl |>.push_mk rfl
  go_enter Try.func4, Try.ntmps4
  go_wp2_with fail
  refine absorb_calls (H.litAt 1 rfl w.heap.size rfl _ _ _ |>.push_mk rfl) ?_
  clear H
  intro w2 H
  generalize w.heap.size = gL at H ⊢
  replace H : St w [] w2 (lay [led (.pointer none) none, .lit gL 5 (kmCus.map vb) (21, 22)]) := H
  refine key_s.mono ?_
  rintro e wk ⟨Aka, cka, rfl, HN1⟩
  replace H := H.also HN1
  clear HN1
  replace H : St w [] wk (lay [led (.pointer none) none, .lit gL 5 (kmCus.map vb) (21, 22), .row 5 1 (.slice Aka 32 cka) 32 (kmKey.map vb)]) := H
  go_wp2_with fail
  refine message_s.mono ?_
  rintro e wm ⟨Ama, cma, rfl, HN1⟩
  replace H := H.also HN1
  clear HN1
  replace H : St w [] wm (lay [led (.pointer none) none, .lit gL 5 (kmCus.map vb) (21, 22), .row 5 1 (.slice Aka 32 cka) 32 (kmKey.map vb), .row 5 1 (.slice Ama 4 cma) 4 (kmMsg.map vb)]) := H
  go_wp2_with fail
  refine (kmTag_s (.pointer none) none 0 0 128 168 (.inl ⟨rfl, rfl⟩) Aka none Ama 32 0 4 cka 0 cma kmKey [] kmMsg 32 false H 0 4 rfl rfl (LW.none _ _) (by omega) (by omega) (fun w' X h => h.rd 2 rfl) (fun w' X h => Rd.none_) (fun w' X h => h.rd 3 rfl) (by omega) (by omega) (by omega) (by omega)).mono ?_
  rintro e wt ⟨va, rfl, H1⟩
  rw [noteN_none', upd_laid (by simp)] at H1
  generalize kmTagB 168 kmKey [] kmMsg 32 false = Ta at H1 HV0
  replace H := H1.push_mk rfl
  clear H1
  obtain ⟨Aa, ca, rfl, hca, hAa⟩ := row_form (H.row 4 rfl)
  obtain ⟨ga, rfl, -⟩ := hAa (by omega)
  replace H : St w [] wt (lay [led (.pointer none) none, .lit gL 5 (kmCus.map vb) (21, 22), .row 5 1 (.slice Aka 32 cka) 32 (kmKey.map vb), .row 5 1 (.slice Ama 4 cma) 4 (kmMsg.map vb), .row 5 1 (.slice (some ⟨ga, 0, none⟩) 32 ca) 32 (Ta.map vb)]) := H
  replace H : St w [] wt (lay [led (.pointer none) none, .lit gL 5 (kmCus.map vb) (21, 22), .row 5 1 (.slice (some ⟨ga, 0, none⟩) 32 ca) 32 (Ta.map vb)]) := St.drop2 (L := [led (.pointer none) none, .lit gL 5 (kmCus.map vb) (21, 22)]) H
  go_wp2_with fail
  refine key_s.mono ?_
  rintro e wk ⟨Akb, ckb, rfl, HN1⟩
  replace H := H.also HN1
  clear HN1
  replace H : St w [] wk (lay [led (.pointer none) none, .lit gL 5 (kmCus.map vb) (21, 22), .row 5 1 (.slice (some ⟨ga, 0, none⟩) 32 ca) 32 (Ta.map vb), .row 5 1 (.slice Akb 32 ckb) 32 (kmKey.map vb)]) := H
  go_wp2_with fail
  refine message_s.mono ?_
  rintro e wm ⟨Amb, cmb, rfl, HN1⟩
  replace H := H.also HN1
  clear HN1
  replace H : St w [] wm (lay [led (.pointer none) none, .lit gL 5 (kmCus.map vb) (21, 22), .row 5 1 (.slice (some ⟨ga, 0, none⟩) 32 ca) 32 (Ta.map vb), .row 5 1 (.slice Akb 32 ckb) 32 (kmKey.map vb), .row 5 1 (.slice Amb 4 cmb) 4 (kmMsg.map vb)]) := H
  go_wp2_with fail
  refine (kmTag_s (.pointer none) none 0 0 128 168 (.inl ⟨rfl, rfl⟩) Akb (some ⟨gL, 0, none⟩) Amb 32 21 4 ckb _ cmb kmKey kmCus kmMsg 32 false H 0 5 rfl rfl (LW.none _ _) (by omega) (by omega) (fun w' X h => h.rd 3 rfl) (fun w' X h => h.rdLit 1 rfl 1 21 rfl) (fun w' X h => h.rd 4 rfl) (by omega) (by omega) (by omega) (by omega)).mono ?_
  rintro e wt ⟨vb, rfl, H1⟩
  rw [noteN_none', upd_laid (by simp)] at H1
  generalize kmTagB 168 kmKey kmCus kmMsg 32 false = Tb at H1 HV1
  replace H := H1.push_mk rfl
  clear H1
  obtain ⟨Ab, cb, rfl, hcb, hAb⟩ := row_form (H.row 5 rfl)
  obtain ⟨gb, rfl, -⟩ := hAb (by omega)
  replace H : St w [] wt (lay [led (.pointer none) none, .lit gL 5 (kmCus.map vb) (21, 22), .row 5 1 (.slice (some ⟨ga, 0, none⟩) 32 ca) 32 (Ta.map vb), .row 5 1 (.slice Akb 32 ckb) 32 (kmKey.map vb), .row 5 1 (.slice Amb 4 cmb) 4 (kmMsg.map vb), .row 5 1 (.slice (some ⟨gb, 0, none⟩) 32 cb) 32 (Tb.map vb)]) := H
  replace H : St w [] wt (lay [led (.pointer none) none, .lit gL 5 (kmCus.map vb) (21, 22), .row 5 1 (.slice (some ⟨ga, 0, none⟩) 32 ca) 32 (Ta.map vb), .row 5 1 (.slice (some ⟨gb, 0, none⟩) 32 cb) 32 (Tb.map vb)]) := St.drop2 (L := [led (.pointer none) none, .lit gL 5 (kmCus.map vb) (21, 22), .row 5 1 (.slice (some ⟨ga, 0, none⟩) 32 ca) 32 (Ta.map vb)]) H
  go_wp2_with fail
  refine key_s.mono ?_
  rintro e wk ⟨Akc, ckc, rfl, HN1⟩
  replace H := H.also HN1
  clear HN1
  replace H : St w [] wk (lay [led (.pointer none) none, .lit gL 5 (kmCus.map vb) (21, 22), .row 5 1 (.slice (some ⟨ga, 0, none⟩) 32 ca) 32 (Ta.map vb), .row 5 1 (.slice (some ⟨gb, 0, none⟩) 32 cb) 32 (Tb.map vb), .row 5 1 (.slice Akc 32 ckc) 32 (kmKey.map vb)]) := H
  go_wp2_with fail
  refine message_s.mono ?_
  rintro e wm ⟨Amc, cmc, rfl, HN1⟩
  replace H := H.also HN1
  clear HN1
  replace H : St w [] wm (lay [led (.pointer none) none, .lit gL 5 (kmCus.map vb) (21, 22), .row 5 1 (.slice (some ⟨ga, 0, none⟩) 32 ca) 32 (Ta.map vb), .row 5 1 (.slice (some ⟨gb, 0, none⟩) 32 cb) 32 (Tb.map vb), .row 5 1 (.slice Akc 32 ckc) 32 (kmKey.map vb), .row 5 1 (.slice Amc 4 cmc) 4 (kmMsg.map vb)]) := H
  go_wp2_with fail
  refine (kmTag_s (.pointer none) none 0 0 256 136 (.inr ⟨rfl, rfl⟩) Akc (some ⟨gL, 0, none⟩) Amc 32 21 4 ckc _ cmc kmKey kmCus kmMsg 64 false H 0 6 rfl rfl (LW.none _ _) (by omega) (by omega) (fun w' X h => h.rd 4 rfl) (fun w' X h => h.rdLit 1 rfl 1 21 rfl) (fun w' X h => h.rd 5 rfl) (by omega) (by omega) (by omega) (by omega)).mono ?_
  rintro e wt ⟨vc, rfl, H1⟩
  rw [noteN_none', upd_laid (by simp)] at H1
  generalize kmTagB 136 kmKey kmCus kmMsg 64 false = Tc at H1 HV2
  replace H := H1.push_mk rfl
  clear H1
  obtain ⟨Ac, cc, rfl, hcc, hAc⟩ := row_form (H.row 6 rfl)
  obtain ⟨gc, rfl, -⟩ := hAc (by omega)
  replace H : St w [] wt (lay [led (.pointer none) none, .lit gL 5 (kmCus.map vb) (21, 22), .row 5 1 (.slice (some ⟨ga, 0, none⟩) 32 ca) 32 (Ta.map vb), .row 5 1 (.slice (some ⟨gb, 0, none⟩) 32 cb) 32 (Tb.map vb), .row 5 1 (.slice Akc 32 ckc) 32 (kmKey.map vb), .row 5 1 (.slice Amc 4 cmc) 4 (kmMsg.map vb), .row 5 1 (.slice (some ⟨gc, 0, none⟩) 64 cc) 64 (Tc.map vb)]) := H
  replace H : St w [] wt (lay [led (.pointer none) none, .lit gL 5 (kmCus.map vb) (21, 22), .row 5 1 (.slice (some ⟨ga, 0, none⟩) 32 ca) 32 (Ta.map vb), .row 5 1 (.slice (some ⟨gb, 0, none⟩) 32 cb) 32 (Tb.map vb), .row 5 1 (.slice (some ⟨gc, 0, none⟩) 64 cc) 64 (Tc.map vb)]) := St.drop2 (L := [led (.pointer none) none, .lit gL 5 (kmCus.map vb) (21, 22), .row 5 1 (.slice (some ⟨ga, 0, none⟩) 32 ca) 32 (Ta.map vb), .row 5 1 (.slice (some ⟨gb, 0, none⟩) 32 cb) 32 (Tb.map vb)]) H
  go_wp2_with fail
  refine key_s.mono ?_
  rintro e wk ⟨Akd, ckd, rfl, HN1⟩
  replace H := H.also HN1
  clear HN1
  replace H : St w [] wk (lay [led (.pointer none) none, .lit gL 5 (kmCus.map vb) (21, 22), .row 5 1 (.slice (some ⟨ga, 0, none⟩) 32 ca) 32 (Ta.map vb), .row 5 1 (.slice (some ⟨gb, 0, none⟩) 32 cb) 32 (Tb.map vb), .row 5 1 (.slice (some ⟨gc, 0, none⟩) 64 cc) 64 (Tc.map vb), .row 5 1 (.slice Akd 32 ckd) 32 (kmKey.map vb)]) := H
  go_wp2_with fail
  refine message_s.mono ?_
  rintro e wm ⟨Amd, cmd, rfl, HN1⟩
  replace H := H.also HN1
  clear HN1
  replace H : St w [] wm (lay [led (.pointer none) none, .lit gL 5 (kmCus.map vb) (21, 22), .row 5 1 (.slice (some ⟨ga, 0, none⟩) 32 ca) 32 (Ta.map vb), .row 5 1 (.slice (some ⟨gb, 0, none⟩) 32 cb) 32 (Tb.map vb), .row 5 1 (.slice (some ⟨gc, 0, none⟩) 64 cc) 64 (Tc.map vb), .row 5 1 (.slice Akd 32 ckd) 32 (kmKey.map vb), .row 5 1 (.slice Amd 4 cmd) 4 (kmMsg.map vb)]) := H
  go_wp2_with fail
  refine (kmTag_s (.pointer none) none 0 0 128 168 (.inl ⟨rfl, rfl⟩) Akd none Amd 32 0 4 ckd 0 cmd kmKey [] kmMsg 32 true H 0 7 rfl rfl (LW.none _ _) (by omega) (by omega) (fun w' X h => h.rd 5 rfl) (fun w' X h => Rd.none_) (fun w' X h => h.rd 6 rfl) (by omega) (by omega) (by omega) (by omega)).mono ?_
  rintro e wt ⟨vd, rfl, H1⟩
  rw [noteN_none', upd_laid (by simp)] at H1
  generalize kmTagB 168 kmKey [] kmMsg 32 true = Td at H1 HV3
  replace H := H1.push_mk rfl
  clear H1
  obtain ⟨Ad, cd, rfl, hcd, hAd⟩ := row_form (H.row 7 rfl)
  obtain ⟨gd, rfl, -⟩ := hAd (by omega)
  replace H : St w [] wt (lay [led (.pointer none) none, .lit gL 5 (kmCus.map vb) (21, 22), .row 5 1 (.slice (some ⟨ga, 0, none⟩) 32 ca) 32 (Ta.map vb), .row 5 1 (.slice (some ⟨gb, 0, none⟩) 32 cb) 32 (Tb.map vb), .row 5 1 (.slice (some ⟨gc, 0, none⟩) 64 cc) 64 (Tc.map vb), .row 5 1 (.slice Akd 32 ckd) 32 (kmKey.map vb), .row 5 1 (.slice Amd 4 cmd) 4 (kmMsg.map vb), .row 5 1 (.slice (some ⟨gd, 0, none⟩) 32 cd) 32 (Td.map vb)]) := H
  replace H : St w [] wt (lay [led (.pointer none) none, .lit gL 5 (kmCus.map vb) (21, 22), .row 5 1 (.slice (some ⟨ga, 0, none⟩) 32 ca) 32 (Ta.map vb), .row 5 1 (.slice (some ⟨gb, 0, none⟩) 32 cb) 32 (Tb.map vb), .row 5 1 (.slice (some ⟨gc, 0, none⟩) 64 cc) 64 (Tc.map vb), .row 5 1 (.slice (some ⟨gd, 0, none⟩) 32 cd) 32 (Td.map vb)]) := St.drop2 (L := [led (.pointer none) none, .lit gL 5 (kmCus.map vb) (21, 22), .row 5 1 (.slice (some ⟨ga, 0, none⟩) 32 ca) 32 (Ta.map vb), .row 5 1 (.slice (some ⟨gb, 0, none⟩) 32 cb) 32 (Tb.map vb), .row 5 1 (.slice (some ⟨gc, 0, none⟩) 64 cc) 64 (Tc.map vb)]) H
  have hnea : ¬ ca = 28 := by omega
  have hlea : (28 : Int) ≤ ca := by omega
  have hnea2 : ¬ (ca : Int) = 28 := by omega
  have hvt := congrArg Prod.fst HV0.out
  have hvd := congrArg Prod.snd HV0.out
  simp only at hvt hvd
  go_wp2_with fail
  refine (kmBegins_s (some ⟨ga, 0, none⟩) 32 ca Ta 229 120 11 13 (fun w' hb => (H.call hb).rd 2 rfl) (by omega) hca (by omega) hvt).mono ?_
  rintro e wx ⟨rfl, hb⟩
  replace H := H.call hb
  clear hb
  go_wp2_with fail
  refine absorb_calls (H.allocAt 6 rfl wx.heap.size rfl _ _ |>.push_mk rfl) ?_
  intro wy Hy
  have hrd2 := Rd.drop_if (x := 28) (Hy.rd 2 rfl) (by omega) hca
  rw [if_neg hnea, hvd] at hrd2
  generalize wx.heap.size = gz at Hy ⊢
  refine (sameBytes_yes _ _ 4 4 _ _ [69, 110, 225, 78] [69, 110, 225, 78] _ hrd2 (Hy.rdBlk 6 rfl 1 4 rfl) (by omega) (by omega) rfl).mono ?_
  rintro e wz ⟨rfl, hb⟩
  replace H := (Hy.call hb).front 6
  clear hb hrd2 Hy hvt hvd hnea hlea hnea2
  replace H : St w [] wz (lay [led (.pointer none) none, .lit gL 5 (kmCus.map vb) (21, 22), .row 5 1 (.slice (some ⟨ga, 0, none⟩) 32 ca) 32 (Ta.map vb), .row 5 1 (.slice (some ⟨gb, 0, none⟩) 32 cb) 32 (Tb.map vb), .row 5 1 (.slice (some ⟨gc, 0, none⟩) 64 cc) 64 (Tc.map vb), .row 5 1 (.slice (some ⟨gd, 0, none⟩) 32 cd) 32 (Td.map vb)]) := H
  have hneb : ¬ cb = 28 := by omega
  have hleb : (28 : Int) ≤ cb := by omega
  have hneb2 : ¬ (cb : Int) = 28 := by omega
  have hvt := congrArg Prod.fst HV1.out
  have hvd := congrArg Prod.snd HV1.out
  simp only at hvt hvd
  go_wp2_with fail
  refine (kmBegins_s (some ⟨gb, 0, none⟩) 32 cb Tb 59 31 186 150 (fun w' hb => (H.call hb).rd 3 rfl) (by omega) hcb (by omega) hvt).mono ?_
  rintro e wx ⟨rfl, hb⟩
  replace H := H.call hb
  clear hb
  go_wp2_with fail
  refine absorb_calls (H.allocAt 6 rfl wx.heap.size rfl _ _ |>.push_mk rfl) ?_
  intro wy Hy
  have hrd2 := Rd.drop_if (x := 28) (Hy.rd 3 rfl) (by omega) hcb
  rw [if_neg hneb, hvd] at hrd2
  generalize wx.heap.size = gz at Hy ⊢
  refine (sameBytes_yes _ _ 4 4 _ _ [17, 50, 74, 165] [17, 50, 74, 165] _ hrd2 (Hy.rdBlk 6 rfl 1 4 rfl) (by omega) (by omega) rfl).mono ?_
  rintro e wz ⟨rfl, hb⟩
  replace H := (Hy.call hb).front 6
  clear hb hrd2 Hy hvt hvd hneb hleb hneb2
  replace H : St w [] wz (lay [led (.pointer none) none, .lit gL 5 (kmCus.map vb) (21, 22), .row 5 1 (.slice (some ⟨ga, 0, none⟩) 32 ca) 32 (Ta.map vb), .row 5 1 (.slice (some ⟨gb, 0, none⟩) 32 cb) 32 (Tb.map vb), .row 5 1 (.slice (some ⟨gc, 0, none⟩) 64 cc) 64 (Tc.map vb), .row 5 1 (.slice (some ⟨gd, 0, none⟩) 32 cd) 32 (Td.map vb)]) := H
  have hnec : ¬ cc = 60 := by omega
  have hlec : (60 : Int) ≤ cc := by omega
  have hnec2 : ¬ (cc : Int) = 60 := by omega
  have hvt := congrArg Prod.fst HV2.out
  have hvd := congrArg Prod.snd HV2.out
  simp only at hvt hvd
  go_wp2_with fail
  refine (kmBegins_s (some ⟨gc, 0, none⟩) 64 cc Tc 32 197 112 195 (fun w' hb => (H.call hb).rd 4 rfl) (by omega) hcc (by omega) hvt).mono ?_
  rintro e wx ⟨rfl, hb⟩
  replace H := H.call hb
  clear hb
  go_wp2_with fail
  refine absorb_calls (H.allocAt 6 rfl wx.heap.size rfl _ _ |>.push_mk rfl) ?_
  intro wy Hy
  have hrd2 := Rd.drop_if (x := 60) (Hy.rd 4 rfl) (by omega) hcc
  rw [if_neg hnec, hvd] at hrd2
  generalize wx.heap.size = gz at Hy ⊢
  refine (sameBytes_yes _ _ 4 4 _ _ [119, 115, 168, 221] [119, 115, 168, 221] _ hrd2 (Hy.rdBlk 6 rfl 1 4 rfl) (by omega) (by omega) rfl).mono ?_
  rintro e wz ⟨rfl, hb⟩
  replace H := (Hy.call hb).front 6
  clear hb hrd2 Hy hvt hvd hnec hlec hnec2
  replace H : St w [] wz (lay [led (.pointer none) none, .lit gL 5 (kmCus.map vb) (21, 22), .row 5 1 (.slice (some ⟨ga, 0, none⟩) 32 ca) 32 (Ta.map vb), .row 5 1 (.slice (some ⟨gb, 0, none⟩) 32 cb) 32 (Tb.map vb), .row 5 1 (.slice (some ⟨gc, 0, none⟩) 64 cc) 64 (Tc.map vb), .row 5 1 (.slice (some ⟨gd, 0, none⟩) 32 cd) 32 (Td.map vb)]) := H
  have hned : ¬ cd = 28 := by omega
  have hled : (28 : Int) ≤ cd := by omega
  have hned2 : ¬ (cd : Int) = 28 := by omega
  have hvt := congrArg Prod.fst HV3.out
  have hvd := congrArg Prod.snd HV3.out
  simp only at hvt hvd
  go_wp2_with fail
  refine (kmBegins_s (some ⟨gd, 0, none⟩) 32 cd Td 205 131 116 11 (fun w' hb => (H.call hb).rd 5 rfl) (by omega) hcd (by omega) hvt).mono ?_
  rintro e wx ⟨rfl, hb⟩
  replace H := H.call hb
  clear hb
  go_wp2_with fail
  refine absorb_calls (H.allocAt 6 rfl wx.heap.size rfl _ _ |>.push_mk rfl) ?_
  intro wy Hy
  have hrd2 := Rd.drop_if (x := 28) (Hy.rd 5 rfl) (by omega) hcd
  rw [if_neg hned, hvd] at hrd2
  generalize wx.heap.size = gz at Hy ⊢
  refine (sameBytes_yes _ _ 4 4 _ _ [172, 214, 236, 53] [172, 214, 236, 53] _ hrd2 (Hy.rdBlk 6 rfl 1 4 rfl) (by omega) (by omega) rfl).mono ?_
  rintro e wz ⟨rfl, hb⟩
  replace H := (Hy.call hb).front 6
  clear hb hrd2 Hy hvt hvd hned hled hned2
  replace H : St w [] wz (lay [led (.pointer none) none, .lit gL 5 (kmCus.map vb) (21, 22), .row 5 1 (.slice (some ⟨ga, 0, none⟩) 32 ca) 32 (Ta.map vb), .row 5 1 (.slice (some ⟨gb, 0, none⟩) 32 cb) 32 (Tb.map vb), .row 5 1 (.slice (some ⟨gc, 0, none⟩) 64 cc) 64 (Tc.map vb), .row 5 1 (.slice (some ⟨gd, 0, none⟩) 32 cd) 32 (Td.map vb)]) := H
  replace H := H.front 2
  replace H : St w [] wz (lay [led (.pointer none) none, .lit gL 5 (kmCus.map vb) (21, 22)]) := H
  go_wp2_with fail
  refine (ledger_new H 2 rfl).mono ?_
  rintro e wl ⟨l, rfl, H1⟩
  replace H := H1.push_mk rfl
  clear H1
  replace H : St w [] wl (lay [led (.pointer none) none, .lit gL 5 (kmCus.map vb) (21, 22), led l (some [])]) := H
  go_wp2_with fail
  refine key_s.mono ?_
  rintro e wk ⟨Ak, ck, rfl, HN1⟩
  replace H := H.also HN1
  clear HN1
  replace H : St w [] wk (lay [led (.pointer none) none, .lit gL 5 (kmCus.map vb) (21, 22), led l (some []), .row 5 1 (.slice Ak 32 ck) 32 (kmKey.map vb)]) := H
  go_wp2_with fail
  refine (kmNew_s l (some []) 0 0 128 168 (.inl ⟨rfl, rfl⟩) Ak none 32 0 ck 0 kmKey [] H 2 5 4 rfl rfl rfl (by omega) LW.nil (by omega) (by omega) (fun w' X h => h.rd 3 rfl) (fun w' X h => Rd.none_) (by omega) (by omega)).mono ?_
  rintro e wn ⟨gm, g, rfl, H1⟩
  obtain ⟨hxo, hxs, hxr, -⟩ := kmSp_ok (R := 168) kmKey [] (by omega) (by omega)
  generalize kmSp 168 kmKey [] = x at H1 hxo hxs hxr
  rw [HN.out, upd_laid (by simp), upd_push (by simp), upd_push (by simp)] at H1
  replace H : St w [] wn (lay [led (.pointer none) none, .lit gL 5 (kmCus.map vb) (21, 22), led l (some [((3, 200, 2) : RunT)]), .row 5 1 (.slice Ak 32 ck) 32 (kmKey.map vb), .blk g 111 x.vs, .blk gm 79 (macV g 128)]) := H1
  clear H1
  unfold lptr
  go_wp2_with fail
  refine (ledger_runs_w 1 2 H 2 rfl (fun rs h => by injection h with h; subst h; exact ⟨by simp, by simp, by decide⟩) (by omega) 6 rfl).mono ?_
  rintro e w5 ⟨v5, rfl, H1⟩
  replace H := H1.push_mk rfl
  clear H1
  obtain ⟨A5, c5, rfl, -, -⟩ := row_shape (H.row 6 rfl)
  go_wp2_with fail
  refine absorb_calls (H.allocAt 7 rfl w5.heap.size rfl #[.int .u8 3, .int .i64 200, .int .i64 2] 58 |>.push_mk rfl) ?_
  clear H
  intro w6 H
  generalize w5.heap.size = gR at H ⊢
  refine (sameRuns_any A5 (some ⟨gR, 0, none⟩) c5 1 [(3, 200, 2)] [(3, 200, 2)] (H.rd 6 rfl) (H.rdBlk 7 rfl 3 1 rfl) (by simp) (by simp)).mono ?_
  rintro e w7 ⟨rfl, kd, rfl⟩
  replace H := (H.drewN kd).front 6
  rw [decide_eq_true rfl]
  generalize w6.drewN kd = w7 at H ⊢
  replace H : St w [] w7 (lay [led (.pointer none) none, .lit gL 5 (kmCus.map vb) (21, 22), led l (some [((3, 200, 2) : RunT)]), .row 5 1 (.slice Ak 32 ck) 32 (kmKey.map vb), .blk g 111 x.vs, .blk gm 79 (macV g 128)]) := H
  go_wp2_with fail
  refine (kmSum_arg l gm g 128 rfl (-1) (.inl (by omega)) false H 5 rfl).mono ?_
  rintro e wx ⟨rfl, rfl⟩
  go_wp2_with fail
  refine (kmSum_arg l gm g 128 rfl 65537 (.inr (by omega)) true H 5 rfl).mono ?_
  rintro e wx ⟨rfl, rfl⟩
  go_wp2_with fail
  refine (kmNew_no l _ _ 127 (by omega) _).mono ?_
  rintro e w8 ⟨rfl, hb⟩
  replace H := H.call hb
  clear hb
  go_wp2_with fail
  refine (kmTag_no l _ _ _ 512 1 (by omega) (by omega) false _).mono ?_
  rintro e w9 ⟨rfl, hb⟩
  replace H := H.call hb
  clear hb
  go_wp2_with fail
  refine (kmLives_s w9).mono ?_
  rintro e wa ⟨rfl, hb⟩
  replace H := H.call hb
  clear hb
  go_wp2_with fail
  refine (ledger_len_w H 2 rfl).mono ?_
  rintro e wx ⟨rfl, rfl⟩
  rw [show total [((3, 200, 2) : RunT)] = 2 from rfl]
  go_wp2_with fail
  refine (kmStrength_s gm g 128 H 5 rfl).mono ?_
  rintro e wx ⟨rfl, rfl⟩
  go_wp2_with fail
  refine (kmForm_s gm g 128 rfl x H 5 4 6 rfl rfl rfl hxo).mono ?_
  rintro e wb ⟨vf, rfl, H1⟩
  replace H := H1.push_mk rfl
  clear H1
  obtain ⟨Af, cf, rfl, -, -⟩ := row_form (H.row 6 rfl)
  go_wp2
  go_ret
  exact ⟨rfl, H.below⟩
end Go.Proofs.Ythoopaknldkclaa

namespace Go.Proofs.Ythoopaknldkclaa
open Go.RowKit
set_option linter.unusedVariables false
set_option maxRecDepth 100000

theorem kmTagB_length (R : Nat) (key cus p : List UInt8) (N : Nat) (xof : Bool) : (kmTagB R key cus p N xof).length = N := Sp.read_length _ _

attribute [local irreducible] permB kBytes kPerm kFrom kmTagB kmTagN

theorem kmSumN_le {x : Sp} (n B : Nat) (hx : x.Ok) (hs : x.s = false) (h8 : 8 ≤ x.r) (h9 : x.r ≤ 192) (hB : B ≤ 9223372036854775807) : kmSumN x n B ≤ x.p + n + 20 := by
  obtain ⟨k1, k2, k3⟩ := kmEnd_ok B hx hs
  unfold kmSumN
  have e1 : (kmEnd x B).shutN = 1 := by unfold Sp.shutN; rw [k2]; rfl
  have e2 : (kmEnd x B).shut.p = 0 := by unfold Sp.shut; rw [k2]; rfl
  rw [e1, e2]
  have h1 := rightI_le (B : Int) (by omega)
  have h2 := Nat.div_le_self (x.p + (rightI (B : Int)).length) x.r
  have h3 := Nat.div_le_self (0 + n - 1) (kmEnd x B).r
  omega

theorem kmTagN_le (R : Nat) (key cus p : List UInt8) (N : Nat) (xof : Bool) (h8 : 8 ≤ R) (h9 : R ≤ 192) (hk : key.length ≤ 1900000) (hc : cus.length ≤ 1900000) (hp : p.length ≤ 100000000) (hN : N ≤ 65536) : kmTagN R key cus p N xof ≤ 1000000000 := by
  obtain ⟨h1, h2, h3, h4⟩ := kmSp_ok (R := R) key cus h8 h9
  obtain ⟨k1, k2⟩ := Sp.write_ok p h1 (by rw [h3]; exact h4)
  obtain ⟨m1, m2, m3⟩ := Sp.write_r p (kmSp R key cus)
  have a := kmN_le key cus h8 h9 hk hc
  have b := Nat.div_le_self ((kmSp R key cus).p + p.length) R
  have c := kmSumN_le (x := (kmSp R key cus).write p) N (kmBits N xof) k1 (by rw [m3]; exact h2) (by rw [m1, h3]; exact h8) (by rw [m1, h3]; exact h9) (by unfold kmBits; split <;> omega)
  rw [m1, h3] at k2
  unfold kmTagN
  omega

theorem case_size : (Try.prog.info? 24).map (·.size) = some 3 := by kernel_rfl
theorem kmTagC_le (S : Int) (key cus p : List UInt8) (N : Int) (xof : Bool) (hk : key.length ≤ 1900000) (hc : cus.length ≤ 1900000) (hp : p.length ≤ 100000000) : kmTagC S key cus p N xof ≤ 1000000000 := by
  unfold kmTagC
  split
  · rename_i hok
    exact kmTagN_le _ _ _ _ _ _ (by unfold kmR; split <;> omega) (by unfold kmR; split <;> omega) hk hc hp (by have := hok.2; omega)
  · omega

theorem kmTagT_le (S : Int) (key cus p : List UInt8) (N : Int) (xof : Bool) : (kmTagT S key cus p N xof).length ≤ 65536 := by
  unfold kmTagT
  split
  · rename_i hok
    have h : (kmTagB (kmR S) key cus p N.toNat xof).length = N.toNat := kmTagB_length _ _ _ _ _ _
    rw [h]
    have := hok.2
    omega
  · simp

set_option maxHeartbeats 16000000 in
theorem kmacTags_w (Z : Int) (A : Option Addr) (n cA : Nat) (key : List UInt8) (B : Option Addr) (m cB : Nat) (cus : List UInt8) (C : Option Addr) (p cC : Nat) (msg : List UInt8) (N : Int) (xof : Bool) (w : World) (hA : Rd w 1 A n (key.map vb)) (hn : n ≤ 1048576) (hB : Rd w 1 B m (cus.map vb)) (hm : m ≤ 1048576) (hC : Rd w 1 C p (msg.map vb)) (hp : p ≤ 1048576) (hN1 : -9223372036854775808 ≤ N) (hN2 : N ≤ 9223372036854775807) :
    Calls Try.prog 3 #[.agg #[.int .i64 Z, .slice A n cA, .slice B m cB], .agg #[.slice C p cC, .int .i64 N, .bool xof]] w fun e w' => e = .returned (.bool true) ∧ Below w.heap.size w w' := by
  have hlk : key.length = n := by simpa using hA.1
  have hlc : cus.length = m := by simpa using hB.1
  have hlm : msg.length = p := by simpa using hC.1
  have HLK := Lib.hid hlk
  have HLC := Lib.hid hlc
  have HLM := Lib.hid hlm
  clear hlk hlc hlm
  have H0 := St.start_lay w []
  go_enter Try.func3, Try.ntmps3
  go_wp2_with fail
  refine absorb_calls (H0.allocAt 0 rfl w.heap.size rfl _ _ |>.push_mk rfl |>.allocAt 1 rfl (w.heap.size + 1) (by simp) _ _ |>.push_mk rfl) ?_
  intro w1 H
  clear H0
  generalize w.heap.size + 1 = gw at H ⊢
  generalize w.heap.size = gc at H ⊢
  refine (kmLives_s w1).mono ?_
  rintro e w2 ⟨rfl, hb2⟩
  replace H := H.call hb2
  clear hb2
  replace H : St w [] w2 (lay [.blk gc 24 [.int .i64 Z, .slice A n cA, .slice B m cB], .blk gw 26 [.slice C p cC, .int .i64 N, .bool xof]]) := H
  have x0 := H.cell 0 rfl (o := 0) rfl
  have x1 := H.cell 0 rfl (o := 1) rfl
  have x2 := H.cell 0 rfl (o := 2) rfl
  have y0 := H.cell 1 rfl (o := 0) rfl
  have y1 := H.cell 1 rfl (o := 1) rfl
  have xr := H.range 0 rfl
  have csz := case_size
  have HB1 := H.allocAt 2 rfl w2.heap.size rfl #[.int .i64 0, .int .i64 0, .int .i64 0, .slice C p cC, .int .i64 N, .bool false] 30 |>.blk 0 rfl
  go_wp2_with (refine wpList_load_row rfl 24 (.tmp 2) rfl gc rfl _ _ _ _ HB1 Try.underlying24 rfl (by rw [csz]; rfl) ?_)
  refine absorb_calls (H.allocAt 2 rfl w2.heap.size rfl _ _ |>.push_mk rfl |>.allocAt 3 rfl (w2.heap.size + 1) (by simp) _ _ |>.push_mk rfl) ?_
  clear HB1 x0 x1 x2 y0 y1 xr
  intro w3 H3
  generalize w2.heap.size + 1 = g3 at H3 ⊢
  generalize w2.heap.size = g2 at H3 ⊢
  refine (kmSmall_s (some ⟨g2, 0, none⟩) (some ⟨g3, 0, none⟩) 1 1 1 1 [⟨0, 0, 0, C, p, cC, msg, N, false⟩] [⟨Z, A, n, cA, key, B, m, cB, cus⟩] w3 (H3.rdBlk 2 rfl 6 1 rfl) (H3.rdBlk 3 rfl 3 1 rfl) (by omega) (by omega) (by simp; omega) (by simp; omega)).mono ?_
  rintro e w4 ⟨bs, rfl, hsm, hb⟩
  replace H := (H3.call hb).front 2
  clear hb H3
  replace H : St w [] w4 (lay [.blk gc 24 [.int .i64 Z, .slice A n cA, .slice B m cB], .blk gw 26 [.slice C p cC, .int .i64 N, .bool xof]]) := H
  cases bs with
  | false =>
    go_wp2
    go_ret
    exact ⟨rfl, H.below⟩
  | true =>
  clear hsm
  have x0 := H.cell 0 rfl (o := 0) rfl
  have x1 := H.cell 0 rfl (o := 1) rfl
  have x2 := H.cell 0 rfl (o := 2) rfl
  have y0 := H.cell 1 rfl (o := 0) rfl
  go_wp2_with fail
  refine (lent_st A n cA key H (H.arg0 hA) (by omega)).mono ?_
  rintro e w5 ⟨fk, tk, htk, rfl, H1⟩
  replace H : St w [] w5 (lay [.blk gc 24 [.int .i64 Z, .slice A n cA, .slice B m cB], .blk gw 26 [.slice C p cC, .int .i64 N, .bool xof], .row 5 1 (.slice (some ⟨fk, 0, none⟩) (n + 6) tk) (n + 6) ((key ++ marksB 7 0 6).map vb)]) := H1
  clear H1 x0 x1 x2 y0
  have y0 := H.cell 1 rfl (o := 0) rfl
  go_wp2_with fail
  refine (lent_st C p cC msg H (H.arg0 hC) (by omega)).mono ?_
  rintro e w5 ⟨fp, tp, htp, rfl, H1⟩
  replace H : St w [] w5 (lay [.blk gc 24 [.int .i64 Z, .slice A n cA, .slice B m cB], .blk gw 26 [.slice C p cC, .int .i64 N, .bool xof], .row 5 1 (.slice (some ⟨fk, 0, none⟩) (n + 6) tk) (n + 6) ((key ++ marksB 7 0 6).map vb), .row 5 1 (.slice (some ⟨fp, 0, none⟩) (p + 6) tp) (p + 6) ((msg ++ marksB 7 0 6).map vb)]) := H1
  clear H1 y0
  have x2 := H.cell 0 rfl (o := 2) rfl
  go_wp2_with fail
  refine (lent_st B m cB cus H (H.arg0 hB) (by omega)).mono ?_
  rintro e w5 ⟨fq, tq, htq, rfl, H1⟩
  replace H : St w [] w5 (lay [.blk gc 24 [.int .i64 Z, .slice A n cA, .slice B m cB], .blk gw 26 [.slice C p cC, .int .i64 N, .bool xof], .row 5 1 (.slice (some ⟨fk, 0, none⟩) (n + 6) tk) (n + 6) ((key ++ marksB 7 0 6).map vb), .row 5 1 (.slice (some ⟨fp, 0, none⟩) (p + 6) tp) (p + 6) ((msg ++ marksB 7 0 6).map vb), .row 5 1 (.slice (some ⟨fq, 0, none⟩) (m + 6) tq) (m + 6) ((cus ++ marksB 7 0 6).map vb)]) := H1
  clear H1 x2
  go_wp2_with fail
  refine (ledger_new H 5 rfl).mono ?_
  rintro e w5 ⟨l, rfl, H1⟩
  replace H := H1.push_mk rfl
  clear H1
  go_wp2_with fail
  refine (refLedger_new H 6 rfl).mono ?_
  rintro e w5 ⟨lr, rfl, H1⟩
  replace H := H1.push_mk rfl
  clear H1
  replace H : St w [] w5 (lay [.blk gc 24 [.int .i64 Z, .slice A n cA, .slice B m cB], .blk gw 26 [.slice C p cC, .int .i64 N, .bool xof], .row 5 1 (.slice (some ⟨fk, 0, none⟩) (n + 6) tk) (n + 6) ((key ++ marksB 7 0 6).map vb), .row 5 1 (.slice (some ⟨fp, 0, none⟩) (p + 6) tp) (p + 6) ((msg ++ marksB 7 0 6).map vb), .row 5 1 (.slice (some ⟨fq, 0, none⟩) (m + 6) tq) (m + 6) ((cus ++ marksB 7 0 6).map vb), led l (some []), ledR lr (some [])]) := H
  have b1 : (n : Int) ≤ tk := by omega
  have b2 : (m : Int) ≤ tq := by omega
  have b3 : (p : Int) ≤ tp := by omega
  have b4 : n ≤ tk := by omega
  have b5 : m ≤ tq := by omega
  have b6 : p ≤ tp := by omega
  go_upto_region 11 with (fail)
  refine absorb_wp H ?_
  clear H
  intro w6 H
  obtain ⟨T1, HT1⟩ : ∃ T, Hid (kmTagT Z key cus msg N xof = T) := ⟨_, rfl⟩
  obtain ⟨N1, HN1⟩ : ∃ T, Hid (kmTagC Z key cus msg N xof = T) := ⟨_, rfl⟩
  obtain ⟨er, HEr⟩ : ∃ T, Hid (kmEr Z N = T) := ⟨_, rfl⟩
  have hN1 : N1 ≤ 1000000000 := by rw [← HN1.out]; exact kmTagC_le _ _ _ _ _ _ (by rw [HLK.out]; omega) (by rw [HLC.out]; omega) (by rw [HLM.out]; omega)
  have hT1 : T1.length ≤ 65536 := by rw [← HT1.out]; exact kmTagT_le _ _ _ _ _ _
  replace H := H.drew
  have HS := (((H.nothing 7 rfl).push_mk rfl).blur (A := fun X : Own => X) .emp 7 rfl).blur (A := fun r => led l r) (some []) 5 rfl
  refine wp_region_held_drew (S := fun w' : World => St w [] w' (lay [.blk gc 24 [.int .i64 Z, .slice A n cA, .slice B m cB], .blk gw 26 [.slice C p cC, .int .i64 N, .bool xof], .row 5 1 (.slice (some ⟨fk, 0, none⟩) (n + 6) tk) (n + 6) ((key ++ marksB 7 0 6).map vb), .row 5 1 (.slice (some ⟨fp, 0, none⟩) (p + 6) tp) (p + 6) ((msg ++ marksB 7 0 6).map vb), .row 5 1 (.slice (some ⟨fq, 0, none⟩) (m + 6) tq) (m + 6) ((cus ++ marksB 7 0 6).map vb), .ex (fun r => led l r), ledR lr (some []), .ex (fun X : Own => X)])) (by kernel_rfl) ?_ (fun hHeld => ?_)
  · exact HS
  refine takeV 0 rfl (by intro w h; clear h; go_simp; try with_reducible rfl) (by kernel_rfl) (by kernel_rfl) (by kernel_rfl) (by exact fun _ _ _ h => h) (by rfl) (by assumption) ?_
  try simp only [Act.put, List.setIfInBounds_toArray, List.set_cons_zero, List.set_cons_succ]
  refine takeV 1 rfl (by intro w h; clear h; go_simp; try with_reducible rfl) (by kernel_rfl) (by kernel_rfl) (by kernel_rfl) (by exact fun _ _ _ h => h) (by rfl) (by assumption) ?_
  try simp only [Act.put, List.setIfInBounds_toArray, List.set_cons_zero, List.set_cons_succ]
  refine takeV 2 rfl (by intro w h; have hc := h.cell 0 rfl (o := 0) rfl; clear h; go_simp; try with_reducible rfl) (by kernel_rfl) (by kernel_rfl) (by kernel_rfl) (by exact fun _ _ _ h => h) (by rfl) (by assumption) ?_
  try simp only [Act.put, List.setIfInBounds_toArray, List.set_cons_zero, List.set_cons_succ]
  refine takeV 3 rfl (by intro w h; clear h; go_simp; try with_reducible rfl) (by kernel_rfl) (by kernel_rfl) (by kernel_rfl) (by exact fun _ _ _ h => h) (by rfl) (by assumption) ?_
  try simp only [Act.put, List.setIfInBounds_toArray, List.set_cons_zero, List.set_cons_succ]
  refine takeV 4 rfl (by intro w h; clear h; go_simp; try with_reducible rfl) (by kernel_rfl) (by kernel_rfl) (by kernel_rfl) (by exact fun _ _ _ h => h) (by rfl) (by assumption) ?_
  try simp only [Act.put, List.setIfInBounds_toArray, List.set_cons_zero, List.set_cons_succ]
  refine takeV 5 rfl (by intro w h; have hc := h.cell 0 rfl (o := 1) rfl; clear h; go_simp; try with_reducible rfl) (by kernel_rfl) (by kernel_rfl) (by kernel_rfl) (by exact fun _ _ _ h => h) (by rfl) (by assumption) ?_
  try simp only [Act.put, List.setIfInBounds_toArray, List.set_cons_zero, List.set_cons_succ]
  refine takeV 6 rfl (by intro w h; clear h; go_simp; try with_reducible rfl) (by kernel_rfl) (by kernel_rfl) (by kernel_rfl) (by exact fun _ _ _ h => h) (by rfl) (by assumption) ?_
  try simp only [Act.put, List.setIfInBounds_toArray, List.set_cons_zero, List.set_cons_succ]
  refine takeV 7 rfl (by intro w h; clear h; go_simp; try with_reducible rfl) (by kernel_rfl) (by kernel_rfl) (by kernel_rfl) (by exact fun _ _ _ h => h) (by rfl) (by assumption) ?_
  try simp only [Act.put, List.setIfInBounds_toArray, List.set_cons_zero, List.set_cons_succ]
  refine takeV 8 rfl (by intro w h; clear h; go_simp; try with_reducible rfl) (by kernel_rfl) (by kernel_rfl) (by kernel_rfl) (by exact fun _ _ _ h => h) (by rfl) (by assumption) ?_
  try simp only [Act.put, List.setIfInBounds_toArray, List.set_cons_zero, List.set_cons_succ]
  refine takeV 9 rfl (by intro w h; clear h; go_simp; try with_reducible rfl) (by kernel_rfl) (by kernel_rfl) (by kernel_rfl) (by exact fun _ _ _ h => h) (by rfl) (by assumption) ?_
  try simp only [Act.put, List.setIfInBounds_toArray, List.set_cons_zero, List.set_cons_succ]
  refine takeV 10 rfl (by intro w h; have hc := h.cell 0 rfl (o := 2) rfl; clear h; go_simp; try with_reducible rfl) (by kernel_rfl) (by kernel_rfl) (by kernel_rfl) (by exact fun _ _ _ h => h) (by rfl) (by assumption) ?_
  try simp only [Act.put, List.setIfInBounds_toArray, List.set_cons_zero, List.set_cons_succ]
  refine takeV 11 rfl (by intro w h; clear h; go_simp; try with_reducible rfl) (by kernel_rfl) (by kernel_rfl) (by kernel_rfl) (by exact fun _ _ _ h => h) (by rfl) (by assumption) ?_
  try simp only [Act.put, List.setIfInBounds_toArray, List.set_cons_zero, List.set_cons_succ]
  refine takeV 12 rfl (by intro w h; clear h; go_simp; try with_reducible rfl) (by kernel_rfl) (by kernel_rfl) (by kernel_rfl) (by exact fun _ _ _ h => h) (by rfl) (by assumption) ?_
  try simp only [Act.put, List.setIfInBounds_toArray, List.set_cons_zero, List.set_cons_succ]
  refine takeV 13 rfl (by intro w h; clear h; go_simp; try with_reducible rfl) (by kernel_rfl) (by kernel_rfl) (by kernel_rfl) (by exact fun _ _ _ h => h) (by rfl) (by assumption) ?_
  try simp only [Act.put, List.setIfInBounds_toArray, List.set_cons_zero, List.set_cons_succ]
  refine takeV 14 rfl (by intro w h; clear h; go_simp; try with_reducible rfl) (by kernel_rfl) (by kernel_rfl) (by kernel_rfl) (by exact fun _ _ _ h => h) (by rfl) (by assumption) ?_
  try simp only [Act.put, List.setIfInBounds_toArray, List.set_cons_zero, List.set_cons_succ]
  refine takeV 15 rfl (by intro w h; have hc := h.cell 1 rfl (o := 0) rfl; clear h; go_simp; try with_reducible rfl) (by kernel_rfl) (by kernel_rfl) (by kernel_rfl) (by exact fun _ _ _ h => h) (by rfl) (by assumption) ?_
  try simp only [Act.put, List.setIfInBounds_toArray, List.set_cons_zero, List.set_cons_succ]
  refine takeV 16 rfl (by intro w h; clear h; go_simp; try with_reducible rfl) (by kernel_rfl) (by kernel_rfl) (by kernel_rfl) (by exact fun _ _ _ h => h) (by rfl) (by assumption) ?_
  try simp only [Act.put, List.setIfInBounds_toArray, List.set_cons_zero, List.set_cons_succ]
  refine takeV 17 rfl (by intro w h; clear h; go_simp; try with_reducible rfl) (by kernel_rfl) (by kernel_rfl) (by kernel_rfl) (by exact fun _ _ _ h => h) (by rfl) (by assumption) ?_
  try simp only [Act.put, List.setIfInBounds_toArray, List.set_cons_zero, List.set_cons_succ]
  refine takeV 18 rfl (by intro w h; clear h; go_simp; try with_reducible rfl) (by kernel_rfl) (by kernel_rfl) (by kernel_rfl) (by exact fun _ _ _ h => h) (by rfl) (by assumption) ?_
  try simp only [Act.put, List.setIfInBounds_toArray, List.set_cons_zero, List.set_cons_succ]
  refine takeV 19 rfl (by intro w h; have hc := h.cell 1 rfl (o := 1) rfl; clear h; go_simp; try with_reducible rfl) (by kernel_rfl) (by kernel_rfl) (by kernel_rfl) (by exact fun _ _ _ h => h) (by rfl) (by assumption) ?_
  try simp only [Act.put, List.setIfInBounds_toArray, List.set_cons_zero, List.set_cons_succ]
  refine takeV 20 rfl (by intro w h; clear h; go_simp; try with_reducible rfl) (by kernel_rfl) (by kernel_rfl) (by kernel_rfl) (by exact fun _ _ _ h => h) (by rfl) (by assumption) ?_
  try simp only [Act.put, List.setIfInBounds_toArray, List.set_cons_zero, List.set_cons_succ]
  refine takeV 21 rfl (by intro w h; have hc := h.cell 1 rfl (o := 2) rfl; clear h; go_simp; try with_reducible rfl) (by kernel_rfl) (by kernel_rfl) (by kernel_rfl) (by exact fun _ _ _ h => h) (by rfl) (by assumption) ?_
  try simp only [Act.put, List.setIfInBounds_toArray, List.set_cons_zero, List.set_cons_succ]
  refine take_call 22 rfl (by kernel_rfl) (fun K hK => ?_)
  try go_simp
  clear HS hHeld
  refine (kmTag_any l (some []) 0 0 Z N (some ⟨fk, 0, none⟩) (some ⟨fq, 0, none⟩) (some ⟨fp, 0, none⟩) n m p tk tq tp key cus msg xof H 5 7 rfl rfl LW.nil (by omega) (by omega) (fun w' X h => Rd.frontB (h.rd 2 rfl) HLK.out (by omega)) (fun w' X h => Rd.frontB (h.rd 4 rfl) HLC.out (by omega)) (fun w' X h => Rd.frontB (h.rd 3 rfl) HLM.out (by omega)) (by omega) (by omega) (by omega)).mono ?_
  rintro e wx ⟨va, rfl, H1⟩
  rw [HT1.out, HN1.out, upd_laid (by simp)] at H1
  rw [HEr.out]
  clear H
  have H := H1.push_mk rfl
  clear H1
  obtain ⟨Aa, ca, rfl, -, -⟩ := row_form (H.row 7 rfl)
  replace H : St w [] wx (lay [.blk gc 24 [.int .i64 Z, .slice A n cA, .slice B m cB], .blk gw 26 [.slice C p cC, .int .i64 N, .bool xof], .row 5 1 (.slice (some ⟨fk, 0, none⟩) (n + 6) tk) (n + 6) ((key ++ marksB 7 0 6).map vb), .row 5 1 (.slice (some ⟨fp, 0, none⟩) (p + 6) tp) (p + 6) ((msg ++ marksB 7 0 6).map vb), .row 5 1 (.slice (some ⟨fq, 0, none⟩) (m + 6) tq) (m + 6) ((cus ++ marksB 7 0 6).map vb), led l (noteN (some []) 3 200 N1), ledR lr (some []), .row 5 1 (.slice Aa T1.length ca) T1.length (T1.map vb)]) := H
  have HS := (H.blur (A := fun X : Own => X) _ 7 rfl).blur (A := fun r => led l r) _ 5 rfl
  refine hK.out _ _ ?_ (fun hHeld => ?_)
  · exact HS
  clear hK K
  try simp only [Act.put, List.setIfInBounds_toArray, List.set_cons_zero, List.set_cons_succ]
  refine takeV 23 rfl (by intro w h; clear h; go_simp; try with_reducible rfl) (by kernel_rfl) (by kernel_rfl) (by kernel_rfl) (by exact fun _ _ _ h => h) (by rfl) (by assumption) ?_
  try simp only [Act.put, List.setIfInBounds_toArray, List.set_cons_zero, List.set_cons_succ]
  refine takeV 24 rfl (by intro w h; clear h; go_simp; try with_reducible rfl) (by kernel_rfl) (by kernel_rfl) (by kernel_rfl) (by exact fun _ _ _ h => h) (by rfl) (by assumption) ?_
  try simp only [Act.put, List.setIfInBounds_toArray, List.set_cons_zero, List.set_cons_succ]
  refine takeV 25 rfl (by intro w h; clear h; go_simp; try with_reducible rfl) (by kernel_rfl) (by kernel_rfl) (by kernel_rfl) (by exact fun _ _ _ h => h) (by rfl) (by assumption) ?_
  try simp only [Act.put, List.setIfInBounds_toArray, List.set_cons_zero, List.set_cons_succ]
  refine takeV 26 rfl (by intro w h; clear h; go_simp; try with_reducible rfl) (by kernel_rfl) (by kernel_rfl) (by kernel_rfl) (by exact fun _ _ _ h => h) (by rfl) (by assumption) ?_
  try simp only [Act.put, List.setIfInBounds_toArray, List.set_cons_zero, List.set_cons_succ]
  refine takeV 27 rfl (by intro w h; clear h; go_simp; try with_reducible rfl) (by kernel_rfl) (by kernel_rfl) (by kernel_rfl) (by exact fun _ _ _ h => h) (by rfl) (by assumption) ?_
  try simp only [Act.put, List.setIfInBounds_toArray, List.set_cons_zero, List.set_cons_succ]
  refine wpAnyH_done (by kernel_rfl) ?_ _
  clear HS
  have x0 := H.cell 0 rfl (o := 0) rfl
  have x1 := H.cell 0 rfl (o := 1) rfl
  have x2 := H.cell 0 rfl (o := 2) rfl
  have y0 := H.cell 1 rfl (o := 0) rfl
  have y1 := H.cell 1 rfl (o := 1) rfl
  have y2 := H.cell 1 rfl (o := 2) rfl
  go_wp2_with fail
  refine (rkTag_any lr (some []) 0 0 Z N A B C n m p cA cB cC key cus msg xof H 6 8 rfl rfl LW.nil (by omega) (by omega) (fun w' X h => h.arg0 hA) (fun w' X h => h.arg0 hB) (fun w' X h => h.arg0 hC) (by omega) (by omega) (by omega)).mono ?_
  rintro e wx ⟨vd, rfl, H1⟩
  rw [HT1.out, HN1.out, upd_laid (by simp)] at H1
  rw [HEr.out]
  clear x0 x1 x2 y0 y1 y2
  replace H := H1.push_mk rfl
  clear H1
  obtain ⟨Ab, cb, rfl, -, -⟩ := row_form (H.row 8 rfl)
  replace H : St w [] wx (lay [.blk gc 24 [.int .i64 Z, .slice A n cA, .slice B m cB], .blk gw 26 [.slice C p cC, .int .i64 N, .bool xof], .row 5 1 (.slice (some ⟨fk, 0, none⟩) (n + 6) tk) (n + 6) ((key ++ marksB 7 0 6).map vb), .row 5 1 (.slice (some ⟨fp, 0, none⟩) (p + 6) tp) (p + 6) ((msg ++ marksB 7 0 6).map vb), .row 5 1 (.slice (some ⟨fq, 0, none⟩) (m + 6) tq) (m + 6) ((cus ++ marksB 7 0 6).map vb), led l (noteN (some []) 3 200 N1), ledR lr (noteN (some []) 3 200 N1), .row 5 1 (.slice Aa T1.length ca) T1.length (T1.map vb), .row 5 1 (.slice Ab T1.length cb) T1.length (T1.map vb)]) := H
  have x1 := H.cell 0 rfl (o := 1) rfl
  go_wp2_with fail
  refine (keptBytes_yes (some ⟨fk, 0, none⟩) A (n + 6) n tk cA (key ++ marksB 7 0 6) key _ (H.rd 2 rfl) (H.arg0 hA) (by omega) (by omega) rfl).mono ?_
  rintro e wc ⟨rfl, hb⟩
  replace H := H.call hb
  clear hb x1
  have y0 := H.cell 1 rfl (o := 0) rfl
  go_wp2_with fail
  refine (keptBytes_yes (some ⟨fp, 0, none⟩) C (p + 6) p tp cC (msg ++ marksB 7 0 6) msg _ (H.rd 3 rfl) (H.arg0 hC) (by omega) (by omega) rfl).mono ?_
  rintro e wc ⟨rfl, hb⟩
  replace H := H.call hb
  clear hb y0
  have x2 := H.cell 0 rfl (o := 2) rfl
  go_wp2_with fail
  refine (keptBytes_yes (some ⟨fq, 0, none⟩) B (m + 6) m tq cB (cus ++ marksB 7 0 6) cus _ (H.rd 4 rfl) (H.arg0 hB) (by omega) (by omega) rfl).mono ?_
  rintro e wc ⟨rfl, hb⟩
  replace H := H.call hb
  clear hb x2
  have heq : (er == er) = true := by simp
  go_wp2_with fail
  refine (sameBytes_yes Aa Ab T1.length T1.length ca cb T1 T1 _ (H.rd 7 rfl) (H.rd 8 rfl) (by omega) (by omega) rfl).mono ?_
  rintro e we ⟨rfl, hb⟩
  replace H := H.call hb
  clear hb
  have hrl : Hid (∃ rs, noteN (some []) 3 200 N1 = some rs ∧ rs.length ≤ 1) := by
    unfold Hid noteN
    split
    · exact ⟨[], rfl, by simp⟩
    · exact ⟨_, rfl, by simp [noted]⟩
  obtain ⟨rs, hrs, hrl1⟩ := hrl.out
  have hlw : LW (some rs) 1 ((N1 : Nat) : Int) := by rw [← hrs]; exact (LW.nil.noteN 3 200 N1).more (by omega) (by omega)
  rw [hrs] at H
  have HLW := Lib.hid hlw
  clear hrs hrl hlw
  replace H : St w [] we (lay [.blk gc 24 [.int .i64 Z, .slice A n cA, .slice B m cB], .blk gw 26 [.slice C p cC, .int .i64 N, .bool xof], .row 5 1 (.slice (some ⟨fk, 0, none⟩) (n + 6) tk) (n + 6) ((key ++ marksB 7 0 6).map vb), .row 5 1 (.slice (some ⟨fp, 0, none⟩) (p + 6) tp) (p + 6) ((msg ++ marksB 7 0 6).map vb), .row 5 1 (.slice (some ⟨fq, 0, none⟩) (m + 6) tq) (m + 6) ((cus ++ marksB 7 0 6).map vb), led l (some rs), ledR lr (some rs), .row 5 1 (.slice Aa T1.length ca) T1.length (T1.map vb), .row 5 1 (.slice Ab T1.length cb) T1.length (T1.map vb)]) := H
  go_wp2_with fail
  refine (ledger_runs_w 1 _ H 5 rfl HLW.out (by omega) 9 rfl).mono ?_
  rintro e wf ⟨vr, rfl, H1⟩
  replace H := H1.push_mk rfl
  clear H1
  obtain ⟨Ar, cr, rfl, -, -⟩ := row_shape (H.row 9 rfl)
  go_wp2_with fail
  refine (refRuns_w 1 _ H 6 rfl HLW.out (by omega) 10 rfl).mono ?_
  rintro e wg ⟨vs, rfl, H1⟩
  replace H := H1.push_mk rfl
  clear H1
  obtain ⟨As, cs, rfl, -, -⟩ := row_shape (H.row 10 rfl)
  go_wp2_with fail
  refine (sameRuns_any Ar As cr cs rs rs (H.rd 9 rfl) (H.rd 10 rfl) (by omega) (by omega)).mono ?_
  rintro e wh ⟨rfl, kd, rfl⟩
  replace H := (H.drewN kd).front 9
  rw [decide_eq_true rfl]
  generalize wg.drewN kd = wh at H ⊢
  replace H : St w [] wh (lay [.blk gc 24 [.int .i64 Z, .slice A n cA, .slice B m cB], .blk gw 26 [.slice C p cC, .int .i64 N, .bool xof], .row 5 1 (.slice (some ⟨fk, 0, none⟩) (n + 6) tk) (n + 6) ((key ++ marksB 7 0 6).map vb), .row 5 1 (.slice (some ⟨fp, 0, none⟩) (p + 6) tp) (p + 6) ((msg ++ marksB 7 0 6).map vb), .row 5 1 (.slice (some ⟨fq, 0, none⟩) (m + 6) tq) (m + 6) ((cus ++ marksB 7 0 6).map vb), led l (some rs), ledR lr (some rs), .row 5 1 (.slice Aa T1.length ca) T1.length (T1.map vb), .row 5 1 (.slice Ab T1.length cb) T1.length (T1.map vb)]) := H
  have HMK : Hid ((key ++ marksB 7 0 6).length = n + 6) := by unfold Hid; rw [List.length_append, marksB_length, HLK.out]
  have HMP : Hid ((msg ++ marksB 7 0 6).length = p + 6) := by unfold Hid; rw [List.length_append, marksB_length, HLM.out]
  have HMQ : Hid ((cus ++ marksB 7 0 6).length = m + 6) := by unfold Hid; rw [List.length_append, marksB_length, HLC.out]
  generalize key ++ marksB 7 0 6 = Mk at H HMK
  generalize msg ++ marksB 7 0 6 = Mp at H HMP
  generalize cus ++ marksB 7 0 6 = Mq at H HMQ
  replace H := H.shape_row 2 rfl HMK.out.symm rfl
  replace H := H.shape_row 3 rfl HMP.out.symm rfl
  replace H := H.shape_row 4 rfl HMQ.out.symm rfl
  go_wp2_with fail
  refine (apart_st H [(.slice Aa T1.length ca, T1), (.slice (some ⟨fk, 0, none⟩) (n + 6) tk, Mk), (.slice (some ⟨fp, 0, none⟩) (p + 6) tp, Mp), (.slice (some ⟨fq, 0, none⟩) (m + 6) tq, Mq)] (fun i => [7, 2, 3, 4].getD i 99) (fun i j hi hj => (by decide : ∀ i < 4, ∀ j < 4, [7, 2, 3, 4].getD i 99 = [7, 2, 3, 4].getD j 99 → i = j) i hi j hj) ?_ 4 rfl (by omega) ?_ _ rfl).mono ?_
  · intro i p hp
    match i, hp with
    | 0, hp => cases hp; rfl
    | 1, hp => cases hp; rfl
    | 2, hp => cases hp; rfl
    | 3, hp => cases hp; rfl
    | i + 4, hp => simp at hp
  · intro p hp
    have h1 := HMK.out
    have h2 := HMP.out
    have h3 := HMQ.out
    simp only [List.mem_cons, List.not_mem_nil, or_false] at hp
    rcases hp with rfl | rfl | rfl | rfl <;> simp only <;> omega
  rintro e wz ⟨rfl, hbz⟩
  go_wp2_with fail
  go_ret
  exact ⟨rfl, hbz⟩

theorem kmacTags_walk (s : CaseR) (x : WholeR) (w : World) (hs : s.Ok w) (hx : x.Ok w) :
    Calls Try.prog 3 #[.agg s.cs.toArray, .agg x.cs.toArray] w fun e w' => e = .returned (.bool true) ∧ Below w.heap.size w w' :=
  kmacTags_w s.z0 s.A1 s.n1 s.c1 s.l1 s.A2 s.n2 s.c2 s.l2 x.A0 x.n0 x.c0 x.l0 x.z1 x.b2 w hs.r1 hs.m1 hs.r2 hs.m2 hx.r0 hx.m0 hx.i1.1 hx.i1.2

end Go.Proofs.Ythoopaknldkclaa

namespace Go.Proofs.Ythoopaknldkclaa
open Go.RowKit
set_option linter.unusedVariables false
set_option maxRecDepth 100000

section
variable {w0 w : World} {F0 : List Nat} {E : Env}

theorem St.recast2 {A A' : Own} (H : St w0 F0 w E) (k : Nat) (hk : E k = some A) (h : ∀ w F, A.holds w F → ∃ F', A'.holds w F' ∧ ∀ g ∈ F', g ∈ F) : St w0 F0 w (upd E k A') := by
  obtain ⟨F, hA, -, -, hc⟩ := H.change k hk
  obtain ⟨F', h1, h2⟩ := h w F hA
  exact hc w A' F' h1 (Low.refl _ _) fun g hg => .inl (h2 g hg)

variable {α : Type} {f : α → Own}

theorem bigO_take {e : α} (he : ∀ w, (f e).holds w []) : ∀ (L : List α) (k : Nat) (x : α) (w : World) (F : List Nat), L[k]? = some x → (bigO f L).holds w F → ∃ F', (Own.sep (bigO f (L.set k e)) (f x)).holds w F' ∧ ∀ g ∈ F', g ∈ F := by
  intro L
  induction L with
  | nil => intro k x w F h; simp at h
  | cons y t ih =>
    rintro k x w F hx ⟨G, H, rfl, hG, hH, d⟩
    cases k with
    | zero =>
      simp only [List.getElem?_cons_zero, Option.some.injEq] at hx
      subst hx
      exact ⟨([] ++ H) ++ G, ⟨[] ++ H, G, rfl, ⟨[], H, rfl, he w, hH, by simp⟩, hG, fun g hg h2 => d g h2 (by simpa using hg)⟩, fun g hg => by simp at hg ⊢; exact hg.symm⟩
    | succ k =>
      obtain ⟨F', ⟨G2, H2, rfl, h1, h2, d2⟩, hs⟩ := ih k x w H (by simpa using hx) hH
      refine ⟨(G ++ G2) ++ H2, ⟨G ++ G2, H2, rfl, ⟨G, G2, rfl, hG, h1, fun g hg h => d g hg (hs g (by simp [h]))⟩, h2, fun g hg h => ?_⟩, fun g hg => ?_⟩
      · rcases List.mem_append.1 hg with k1 | k1
        · exact d g k1 (hs g (by simp [h]))
        · exact d2 g k1 h
      · rcases List.mem_append.1 hg with k1 | k1
        · rcases List.mem_append.1 k1 with k2 | k2
          · simp [k2]
          · exact List.mem_append.2 (.inr (hs g (by simp [k2])))
        · exact List.mem_append.2 (.inr (hs g (by simp [k1])))

theorem bigO_put : ∀ (L : List α) (k : Nat) (x : α) (w : World) (F : List Nat), k < L.length → (Own.sep (bigO f L) (f x)).holds w F → ∃ F', (bigO f (L.set k x)).holds w F' ∧ ∀ g ∈ F', g ∈ F := by
  intro L
  induction L with
  | nil => intro k x w F h; simp at h
  | cons y t ih =>
    rintro k x w F hk ⟨G, H, rfl, ⟨G1, G2, rfl, h1, h2, d1⟩, hH, d⟩
    cases k with
    | zero => exact ⟨H ++ G2, ⟨H, G2, rfl, hH, h2, fun g hg h => d g (by simp [h]) hg⟩, fun g hg => by simp at hg ⊢; rcases hg with h | h <;> simp [h]⟩
    | succ k =>
      obtain ⟨F', h3, hs⟩ := ih k x w (G2 ++ H) (by simpa using hk) ⟨G2, H, rfl, h2, hH, fun g hg => d g (by simp [hg])⟩
      refine ⟨G1 ++ F', ⟨G1, F', rfl, h1, h3, fun g hg h => ?_⟩, fun g hg => ?_⟩
      · rcases List.mem_append.1 (hs g h) with k1 | k1
        · exact d1 g hg k1
        · exact d g (by simp [hg]) k1
      · rcases List.mem_append.1 hg with k1 | k1
        · simp [k1]
        · rcases List.mem_append.1 (hs g k1) with k2 | k2 <;> simp [k2]

theorem St.takeSlot {e : α} (he : ∀ w, (f e).holds w []) {L0 : List Own} {L : List α} {x : α} (H : St w0 F0 w (lay L0)) (i k : Nat) (hi : L0[i]? = some (bigO f L)) (hx : L[k]? = some x) : St w0 F0 w (lay (L0.set i (bigO f (L.set k e)) ++ [f x])) := by
  have hl : i < L0.length := (List.getElem?_eq_some_iff.1 hi).1
  have h1 := (H.recast2 (A := bigO f L) (A' := .sep (bigO f (L.set k e)) (f x)) i hi (fun w F h => bigO_take he L k x w F hx h)).upd_mk hl
  have h2 := h1.part_mk i (List.getElem?_set_self hl)
  rwa [List.set_set] at h2

theorem St.putSlot {L0 : List Own} {L : List α} {x : α} (H : St w0 F0 w (lay (L0 ++ [f x]))) (i k : Nat) (hi : L0[i]? = some (bigO f L)) (hk : k < L.length) : St w0 F0 w (lay (L0.set i (bigO f (L.set k x)))) := by
  have hl : i < L0.length := (List.getElem?_eq_some_iff.1 hi).1
  have h1 := H.join i L0.length (by omega) (A := bigO f L) (B := f x) (by simp only [lay]; rw [List.getElem?_append_left hl]; exact hi) (by simp [lay])
  have h2 := h1.recast2 (A := .sep (bigO f L) (f x)) (A' := bigO f (L.set k x)) i (by simp [upd]) (fun w F h => bigO_put L k x w F hk h)
  refine h2.sub fun n C hC => ?_
  simp only [lay] at hC
  simp only [upd, del, lay]
  by_cases hn : n = i
  · subst hn
    rw [List.getElem?_set_self hl] at hC
    rw [if_pos rfl]; exact hC
  · rw [List.getElem?_set_ne (fun e => hn e.symm)] at hC
    have hnl : n < L0.length := (List.getElem?_eq_some_iff.1 hC).1
    rw [if_neg hn, if_neg hn, if_neg (by omega), List.getElem?_append_left hnl]
    exact hC

/-- two pieces that are one -/
theorem St.join_mk {L : List Own} {A B : Own} (H : St w0 F0 w (lay (L ++ [B]))) (i : Nat) (hi : L[i]? = some A) : St w0 F0 w (lay (L.set i (.sep A B))) := by
  have hl : i < L.length := (List.getElem?_eq_some_iff.1 hi).1
  have h1 := H.join i L.length (by omega) (A := A) (B := B) (by simp only [lay]; rw [List.getElem?_append_left hl]; exact hi) (by simp [lay])
  refine h1.sub fun n C hC => ?_
  simp only [lay] at hC
  simp only [upd, del, lay]
  by_cases hn : n = i
  · subst hn
    rw [List.getElem?_set_self hl] at hC
    rw [if_pos rfl]; exact hC
  · rw [List.getElem?_set_ne (fun e => hn e.symm)] at hC
    have hnl : n < L.length := (List.getElem?_eq_some_iff.1 hC).1
    rw [if_neg hn, if_neg (by omega), List.getElem?_append_left hnl]
    exact hC

/-- a walk of its own over a piece and one that is two -/
theorem St.loc {A B C : Own} (H : St w0 F0 w E) (i j : Nat) (hij : i ≠ j) (hi : E i = some A) (hj : E j = some (.sep B C)) :
    ∃ F, St w F w (lay [A, B, C]) ∧ (∀ (w' : World) (A' B' C' : Own), St w F w' (lay [A', B', C']) → St w0 F0 w' (upd (upd E i A') j (.sep B' C'))) ∧
      ∀ (w' : World) (A' B' C' R : Own) (k : Nat), E k = none → St w F w' (lay [A', B', C', R]) → St w0 F0 w' (upd (upd (upd E i A') j (.sep B' C')) k R) := by
  obtain ⟨F, HF, -, -, hback⟩ := H.frame2 i j hij hi hj
  have base : ∀ (w' : World) (A' B' C' : Own), St w F w' (lay [A', B', C']) → St w0 F0 w' (upd (upd E i A') j (.sep B' C')) := fun w' A' B' C' h => by
    refine hback w' A' (.sep B' C') ?_
    exact (St.join_mk (L := [A', B']) (A := B') (B := C') h 1 rfl).to2 rfl rfl
  refine ⟨F, HF.as2.part_mk 1 rfl, base, fun w' A' B' C' R k hk h => ?_⟩
  have hki : k ≠ i := fun e => by rw [e, hi] at hk; cases hk
  have hkj : k ≠ j := fun e => by rw [e, hj] at hk; cases hk
  have h1 : St w F w' (lay [.sep A' R, B', C']) := St.join_mk (L := [A', B', C']) (A := A') (B := R) h 0 rfl
  have h2 := base w' (.sep A' R) B' C' h1
  have h3 := h2.part (A := A') (B := R) i k (Ne.symm hki) (by simp [upd, hij]) (by simp [upd, hki, hkj, hk])
  refine h3.env fun n => ?_
  simp only [upd]
  by_cases hk' : n = k
  · simp [hk']
  · by_cases hj' : n = j
    · subst hj'; simp [Ne.symm hij, Ne.symm hkj]
    · by_cases hi' : n = i
      · subst hi'; simp [hij, Ne.symm hki]
      · simp [hk', hj', hi']
theorem St.loc1 {A : Own} (H : St w0 F0 w E) (i : Nat) (hi : E i = some A) :
    ∃ F, St w F w (lay [A]) ∧ (∀ (w' : World) (A' : Own), St w F w' (lay [A']) → St w0 F0 w' (upd E i A')) ∧
      ∀ (w' : World) (A' R : Own) (k : Nat), E k = none → St w F w' (lay [A', R]) → St w0 F0 w' (upd (upd E i A') k R) := by
  obtain ⟨F, HF, -, -, hback⟩ := H.frame1 i hi
  have base : ∀ (w' : World) (A' : Own), St w F w' (lay [A']) → St w0 F0 w' (upd E i A') := fun w' A' h => hback w' A' (h.to1 rfl)
  refine ⟨F, HF.as1, base, fun w' A' R k hk h => ?_⟩
  have hki : k ≠ i := fun e => by rw [e, hi] at hk; cases hk
  have h1 : St w F w' (lay [.sep A' R]) := St.join_mk (L := [A']) (A := A') (B := R) h 0 rfl
  have h3 := (base w' (.sep A' R) h1).part (A := A') (B := R) i k (Ne.symm hki) (by simp [upd]) (by simp [upd, hki, hk])
  refine h3.env fun n => ?_
  simp only [upd]
  by_cases hk' : n = k
  · simp [hk']
  · by_cases hi' : n = i
    · subst hi'; simp [Ne.symm hki]
    · simp [hk', hi']

theorem upd2_id {A B : Own} {i j : Nat} (hi : E i = some A) (hj : E j = some B) : upd (upd E i A) j B = E := by
  rw [upd_id hi, upd_id hj]
theorem upd_mid {A X : Own} {i j : Nat} (hij : i ≠ j) (hj : E j = some A) : upd (upd E i X) j A = upd E i X :=
  upd_id (by simp [upd, Ne.symm hij, hj])
/-- one of two pieces is let go -/
theorem sep_left {A B : Own} {w : World} {F : List Nat} (h : (Own.sep A B).holds w F) : ∃ F', A.holds w F' ∧ ∀ g ∈ F', g ∈ F := by
  obtain ⟨G, K, rfl, hA, -, -⟩ := h
  exact ⟨G, hA, fun g hg => by simp [hg]⟩
end

/-- what was told, and what was wanted: two slices that hold the same -/
structure Tp where
  v : Value
  u : Value
  l : List UInt8
def Tp.own (p : Tp) : Own := .sep (.row 5 1 p.v p.l.length (p.l.map vb)) (.row 5 1 p.u p.l.length (p.l.map vb))

theorem tp_hp {w : World} : ∀ {L : List Tp} {F : List Nat}, (bigO Tp.own L).holds w F →
    (∀ (i : Nat) (p : Tp), L[i]? = some p → w.ownsRow 0 5 1 p.v p.l.length (p.l.map vb) ∧ ∀ g ∈ p.v.ownBlock.toList, g ∈ F) ∧
    ∀ (i j : Nat) (p q : Tp), i ≠ j → L[i]? = some p → L[j]? = some q → p.v.ownBlock = none ∨ p.v.ownBlock ≠ q.v.ownBlock := by
  intro L
  induction L with
  | nil => intro F _; exact ⟨fun i p h => by simp at h, fun i j p q _ h => by simp at h⟩
  | cons y t ih =>
    rintro F ⟨G, H, rfl, ⟨G1, G2, rfl, ⟨h1, e1⟩, h2, d1⟩, hH, d⟩
    obtain ⟨k1, k2⟩ := ih hH
    have hy : ∀ (j : Nat) (q : Tp), t[j]? = some q → y.v.ownBlock = none ∨ y.v.ownBlock ≠ q.v.ownBlock := by
      intro j q hq
      cases hb : y.v.ownBlock with
      | none => exact .inl rfl
      | some g =>
        refine .inr fun e => ?_
        exact d g (by rw [e1, hb]; simp) ((k1 j q hq).2 g (by rw [← e]; simp))
    refine ⟨fun i p hp => ?_, fun i j p q hij hp hq => ?_⟩
    · cases i with
      | zero =>
        simp only [List.getElem?_cons_zero, Option.some.injEq] at hp
        subst hp
        exact ⟨h1, fun g hg => by rw [← e1] at hg; simp [hg]⟩
      | succ i =>
        obtain ⟨a, b⟩ := k1 i p (by simpa using hp)
        exact ⟨a, fun g hg => List.mem_append.2 (.inr (b g hg))⟩
    · cases i with
      | zero =>
        simp only [List.getElem?_cons_zero, Option.some.injEq] at hp
        subst hp
        cases j with
        | zero => exact absurd rfl hij
        | succ j => exact hy j q (by simpa using hq)
      | succ i =>
        cases j with
        | zero =>
          simp only [List.getElem?_cons_zero, Option.some.injEq] at hq
          subst hq
          rcases hy i p (by simpa using hp) with h | h
          · cases hb : p.v.ownBlock with
            | none => exact .inl rfl
            | some g => exact .inr (by rw [h]; simp)
          · exact .inr (Ne.symm h)
        | succ j => exact k2 i j p q (by omega) (by simpa using hp) (by simpa using hq)

set_option maxHeartbeats 1000000 in
theorem apart_nil (w : World) : Calls Try.prog 20 #[.slice none 0 0] w fun e w' => e = .returned (.bool true) ∧ w = w' := by
  go_enter Try.func20, Try.ntmps20
  go_wp2
  go_loopw [3] (fun i wr => i = .int .i64 0 ∧ w = wr) (fun _ _ => 0)
  case atStart => exact ⟨rfl, rfl⟩
  case round =>
    obtain ⟨rfl, e1⟩ := hrel
    go_wp2
    go_loopw [6] (fun i wr2 => i = .int .i64 0 ∧ w = wr2) (fun _ _ => 0)
    case atStart => exact ⟨rfl, e1⟩
    case round =>
      obtain ⟨rfl, e2⟩ := hrel
      go_wp2
      go_loopw [9] (fun i wr3 => i = .int .i64 0 ∧ w = wr3) (fun _ _ => 0)
      case atStart => exact ⟨rfl, e2⟩
      case round =>
        obtain ⟨rfl, e3⟩ := hrel
        go_wp2
        go_ret
        exact ⟨rfl, e3⟩

theorem apart_big {w0 w : World} {E : Env} (H : St w0 [] w E) (k kt : Nat) (tps : List Tp) (A : Option Addr) (n c : Nat) (hk : E k = some (bigO Tp.own tps)) (ht : E kt = some (.row 22 1 (.slice A n c) n (tps.map Tp.v))) (hn : tps.length = n) (hn' : n ≤ 1000) (hl : ∀ p ∈ tps, p.l.length ≤ 140737488355320) :
    Calls Try.prog 20 #[.slice A n c] w fun e w' => e = .returned (.bool true) ∧ Below w0.heap.size w0 w' := by
  rcases (H.row kt ht).2 with ⟨e, -⟩ | ⟨gL, cap, cur, e, -⟩
  · rw [e]
    refine (apart_nil w).mono ?_
    rintro e w' ⟨rfl, rfl⟩
    exact ⟨rfl, H.below⟩
  · injection e with e1 e2 e3
    subst e1
    obtain ⟨F, hF, hF0, -, -⟩ := H.change k hk
    obtain ⟨k1, k2⟩ := tp_hp hF
    have hp : Hp w w0.heap.size (tps.map fun p => (p.v, p.l)) := by
      refine ⟨fun i p hp => ?_, fun i j p q hij hp hq => ?_⟩
      · rw [List.getElem?_map] at hp
        obtain ⟨t, h1, rfl⟩ := Option.map_eq_some_iff.1 hp
        obtain ⟨a, b⟩ := k1 i t h1
        exact ownsRow_base a fun g hg => by have := hF0 g (b g hg); simpa using this
      · rw [List.getElem?_map] at hp hq
        obtain ⟨t, h1, rfl⟩ := Option.map_eq_some_iff.1 hp
        obtain ⟨s, h2, rfl⟩ := Option.map_eq_some_iff.1 hq
        exact k2 i j t s hij h1 h2
    have hfam := hp.fam
    rw [List.length_map, hn, List.map_map, List.map_map] at hfam
    have hL : LR w gL n c (tps.map Tp.v) := H.row kt ht
    refine (apartBytes_any gL n c w0.heap.size _ _ w hL hfam hn' H.low.size ?_).mono fun e w' he => ⟨he.1, H.below.trans he.2⟩
    intro j hj
    rw [List.getD_eq_getElem?_getD, List.getElem?_map, List.getElem?_eq_getElem (by omega)]
    exact hl _ (List.getElem_mem _)
end Go.Proofs.Ythoopaknldkclaa

namespace Go.Proofs.Ythoopaknldkclaa
open Go.RowKit
set_option linter.unusedVariables false
set_option maxRecDepth 100000

attribute [local irreducible] permB kBytes kPerm kFrom kmTag kmSumN kmSp kmN

inductive KA where
  | nil
  | dead (g : Nat)
  | live (gm g : Nat) (S : Int) (x : Sp)

/-- what a Mac is, but for where it lies -/
abbrev KS := Option (Option (Int × Sp))
def KA.abs : KA → KS
  | .nil => none
  | .dead _ => some none
  | .live _ _ S x => some (some (S, x))
def KA.v : KA → Value
  | .nil => .pointer none
  | .dead g => lptr g
  | .live gm _ _ _ => lptr gm
def KS.Ok (s : KS) : Prop := ∀ S x, s = some (some (S, x)) → x.Ok ∧ x.s = false ∧ (S == 0) = false

def erA : KS → Int
  | some (some _) => 0
  | _ => 1
def wrA (s : KS) (q : List UInt8) : KS := match s with
  | some (some (S, x)) => some (some (S, x.write q))
  | s => s
def wrL (s : KS) (r : Option (List RunT)) (n : Nat) : Option (List RunT) := match s with
  | some (some (S, x)) => noteN r 3 200 ((x.p + n) / x.r)
  | _ => r
def suOk (N : Int) : Prop := 0 ≤ N ∧ N ≤ 65536
instance (N : Int) : Decidable (suOk N) := by unfold suOk; infer_instance
def suE (s : KS) (N : Int) : Int := match s with
  | some (some _) => if suOk N then 0 else 2
  | _ => 1
def suB (s : KS) (N : Int) (xof : Bool) : List UInt8 := match s with
  | some (some (S, x)) => if suOk N then kmTag x N.toNat (kmBits N.toNat xof) else []
  | _ => []
def suL (s : KS) (r : Option (List RunT)) (N : Int) (xof : Bool) : Option (List RunT) := match s with
  | some (some (S, x)) => if suOk N then noteN r 3 200 (kmSumN x N.toNat (kmBits N.toNat xof)) else r
  | _ => r
def clA : KS → KS
  | some (some p) => some (some p)
  | _ => none
def wiA : KS → KS
  | some (some p) => some none
  | s => s
def wiL (s : KS) (r : Option (List RunT)) : Option (List RunT) := match s with
  | some (some _) => noteN r 8 203 1
  | _ => r
def foB : KS → List UInt8
  | some (some (S, x)) => x.form
  | _ => []
def stA : KS → Int
  | some (some (S, x)) => S
  | _ => 0
def neA (S : Int) (key cus : List UInt8) : KS := if S = 128 ∨ S = 256 then some (some (S, kmSp (kmR S) key cus)) else none
def neE (S : Int) : Int := if S = 128 ∨ S = 256 then 0 else 2
def neL (S : Int) (r : Option (List RunT)) (key cus : List UInt8) : Option (List RunT) := if S = 128 ∨ S = 256 then noteN r 3 200 (kmN (kmR S) key cus) else r

theorem wrA_ok {s : KS} (h : s.Ok) (q : List UInt8) : (wrA s q).Ok := by
  match s, h with
  | none, h => exact h
  | some none, h => exact h
  | some (some (S, x)), h =>
    obtain ⟨h1, h2, h3⟩ := h S x rfl
    intro S' x' e
    injection e with e
    injection e with e
    injection e with e1 e2
    subst e1 e2
    exact ⟨(Sp.write_ok q h1 (h1.op h2)).1, by rw [(Sp.write_r q x).2.2]; exact h2, h3⟩
theorem clA_ok {s : KS} (h : s.Ok) : (clA s).Ok := by
  match s, h with
  | none, h => exact h
  | some none, h => intro S x e; cases e
  | some (some (S, x)), h => exact h
theorem wiA_ok {s : KS} (h : s.Ok) : (wiA s).Ok := by
  match s, h with
  | none, h => exact h
  | some none, h => exact h
  | some (some (S, x)), h => intro S x e; cases e
theorem neA_ok (S : Int) (key cus : List UInt8) : (neA S key cus).Ok := by
  unfold neA
  split
  · rename_i h
    intro S' x e
    injection e with e
    injection e with e
    injection e with e1 e2
    subst e1 e2
    obtain ⟨h1, h2, -, -⟩ := kmSp_ok (R := kmR S) key cus (by unfold kmR; split <;> omega) (by unfold kmR; split <;> omega)
    exact ⟨h1, h2, by simp; omega⟩
  · intro S' x e; cases e

theorem wrL_lw {s : KS} (h : s.Ok) {r : Option (List RunT)} {m n : Nat} {b : Int} (hg : LW r m b) (hn : n ≤ 1000000) : LW (wrL s r n) (m + 1) (b + 100000000) := by
  match s, h with
  | none, h => exact hg.more (by omega) (by omega)
  | some none, h => exact hg.more (by omega) (by omega)
  | some (some (S, x)), h =>
    obtain ⟨h1, h2, h3⟩ := h S x rfl
    have hp := h1.pr
    have hr := h1.r192
    have hd := Nat.div_le_self (x.p + n) x.r
    exact (hg.noteN 3 200 ((x.p + n) / x.r)).more (by omega) (by omega)
theorem suL_lw {s : KS} (h : s.Ok) {r : Option (List RunT)} {m : Nat} {b : Int} (hg : LW r m b) (N : Int) (xof : Bool) : LW (suL s r N xof) (m + 1) (b + 100000000) := by
  match s, h with
  | none, h => exact hg.more (by omega) (by omega)
  | some none, h => exact hg.more (by omega) (by omega)
  | some (some (S, x)), h =>
    obtain ⟨h1, h2, h3⟩ := h S x rfl
    unfold suL
    simp only
    split
    · rename_i hN
      have hp := h1.pr
      have hr := h1.r192
      obtain ⟨hN1, hN2⟩ := hN
      have hb := kmSumN_le (x := x) N.toNat (kmBits N.toNat xof) h1 h2 h1.r8 hr (by unfold kmBits; split <;> omega)
      exact (hg.noteN 3 200 _).more (by omega) (by omega)
    · exact hg.more (by omega) (by omega)
theorem wiL_lw {s : KS} {r : Option (List RunT)} {m : Nat} {b : Int} (hg : LW r m b) : LW (wiL s r) (m + 1) (b + 100000000) := by
  match s with
  | none => exact hg.more (by omega) (by omega)
  | some none => exact hg.more (by omega) (by omega)
  | some (some (S, x)) => exact (hg.noteN 8 203 1).more (by omega) (by omega)
theorem neL_lw {S : Int} {r : Option (List RunT)} {m : Nat} {b : Int} {key cus : List UInt8} (hg : LW r m b) (hk : key.length ≤ 1900000) (hc : cus.length ≤ 1900000) : LW (neL S r key cus) (m + 1) (b + 100000000) := by
  unfold neL
  split
  · have h := kmN_le (R := kmR S) key cus (by unfold kmR; split <;> omega) (by unfold kmR; split <;> omega) hk hc
    exact (hg.noteN 3 200 _).more (by omega) (by omega)
  · exact hg.more (by omega) (by omega)
theorem suB_le (s : KS) (N : Int) (xof : Bool) : (suB s N xof).length ≤ 65536 := by
  unfold suB
  split
  · split
    · rename_i hN
      unfold kmTag
      rw [Sp.read_length]
      have := hN.2
      omega
    · simp
  · simp
theorem foB_le {s : KS} (h : s.Ok) : (foB s).length ≤ 203 := by
  match s, h with
  | none, h => simp [foB]
  | some none, h => simp [foB]
  | some (some (S, x)), h => exact Nat.le_of_eq (Sp.form_length (h S x rfl).1.hb)

/-- a Mac's memory -/
def KA.ownM : KA → Own
  | .nil => .emp
  | .dead g => .blk g 79 [.pointer none, .int .i64 0]
  | .live gm g S x => .sep (.blk gm 79 (macV g S)) (.blk g 111 x.vs)

section
variable {w0 w : World} {F0 : List Nat} {E : Env}

theorem kmSum_len (l : Value) (gm g : Nat) (S : Int) (hS : (S == 0) = false) (N : Int) (hN : N < 0 ∨ N > 65536) (xof : Bool) (H : St w0 F0 w E) (j : Nat) (hj : E j = some (.blk gm 79 (macV g S))) :
    Calls Try.prog 25 #[lptr gm, l, .int .i64 N, .bool xof] w fun e w' => e = .returned (.tuple #[.slice none 0 0, .int .i64 2]) ∧ w = w' := by
  have c0 := H.cell j hj (o := 0) rfl
  have c1 := H.cell j hj (o := 1) rfl
  clear H hj
  by_cases h0 : N < 0
  · have hN0 : decide (N < 0) = true := by simpa using h0
    clear hN h0
    go_enter Try.func25, Try.ntmps25
    go_wp2_with fail
    refine (kmNone_no gm S w c1 hS).mono ?_
    rintro e w1 ⟨rfl, rfl⟩
    go_wp2
    go_ret2
    exact ⟨rfl, rfl⟩
  · have hN0 : decide (N < 0) = false := by simpa using h0
    have hN1 : decide (N > 65536) = true := by simp; omega
    clear hN h0
    go_enter Try.func25, Try.ntmps25
    go_wp2_with fail
    refine (kmNone_no gm S w c1 hS).mono ?_
    rintro e w1 ⟨rfl, rfl⟩
    go_wp2
    go_ret2
    exact ⟨rfl, rfl⟩

theorem kmNo_nil : KmNo w (KA.nil).v := .inl rfl
theorem kmNo_dead {g : Nat} (H : St w0 F0 w E) (j : Nat) (hj : E j = some (KA.dead g).ownM) : KmNo w (KA.dead g).v := .inr ⟨g, rfl, H.cell (g := g) (T := 79) (cs := [.pointer none, .int .i64 0]) j hj rfl⟩

theorem kmWrite_any (l : Value) (r : Option (List RunT)) (m : Nat) (b : Int) (a : KA) (ha : a.abs.Ok) (A : Option Addr) (n c : Nat) (q : List UInt8) (H : St w0 F0 w E) (i j : Nat) (hij : i ≠ j) (hi : E i = some (led l r)) (hj : E j = some a.ownM) (hg : LW r m b) (hm : m ≤ 999999999999) (hb : b ≤ 4000000000000000000)
    (hR : ∀ w' X Y, St w0 F0 w' (upd (upd E i X) j Y) → Rd w' 1 A n (q.map vb)) (hn : n ≤ 281474976710656) :
    Calls Try.prog 29 #[a.v, l, .slice A n c] w fun e w' => ∃ a' : KA, a'.abs = wrA a.abs q ∧ a'.v = a.v ∧ e = .returned (.int .i64 (erA a.abs)) ∧ St w0 F0 w' (upd (upd E i (led l (wrL a.abs r n))) j a'.ownM) := by
  cases a with
  | nil =>
    refine (kmWrite_none l (.slice A n c) _ kmNo_nil).mono ?_
    rintro e w' ⟨rfl, rfl⟩
    exact ⟨.nil, rfl, rfl, rfl, H.env fun k => congrFun (upd2_id hi hj) k⟩
  | dead g =>
    refine (kmWrite_none l (.slice A n c) _ (kmNo_dead H j hj)).mono ?_
    rintro e w' ⟨rfl, rfl⟩
    exact ⟨.dead g, rfl, rfl, rfl, H.env fun k => congrFun (upd2_id hi hj) k⟩
  | live gm g S x =>
    obtain ⟨h1, h2, h3⟩ := ha S x rfl
    obtain ⟨F, HF, hb3, -⟩ := H.loc i j hij hi hj
    refine (kmWrite_s l r m b gm g S h3 x A n c q HF 0 1 2 (by omega) rfl rfl rfl hg hm hb h1 h2 (fun w' X Y h => hR w' X _ (hb3 w' X _ Y (by rw [upd_laid (by simp), upd_laid (by simp)] at h; exact h))) hn).mono ?_
    rintro e w' ⟨rfl, H1⟩
    rw [upd_laid (by simp), upd_laid (by simp)] at H1
    exact ⟨.live gm g S (x.write q), rfl, rfl, rfl, hb3 _ _ _ _ H1⟩

theorem kmSum_any (l : Value) (r : Option (List RunT)) (m : Nat) (b : Int) (a : KA) (ha : a.abs.Ok) (N : Int) (xof : Bool) (H : St w0 F0 w E) (i j k0 : Nat) (hij : i ≠ j) (hi : E i = some (led l r)) (hj : E j = some a.ownM) (hk : E k0 = none) (hg : LW r m b) (hm : m ≤ 99999999999) (hb : b ≤ 3000000000000000000) :
    Calls Try.prog 25 #[a.v, l, .int .i64 N, .bool xof] w fun e w' => ∃ v, e = .returned (.tuple #[v, .int .i64 (suE a.abs N)]) ∧ St w0 F0 w' (upd (upd E i (led l (suL a.abs r N xof))) k0 (.row 5 1 v (suB a.abs N xof).length ((suB a.abs N xof).map vb))) := by
  cases a with
  | nil =>
    refine (kmSum_none l N xof _ kmNo_nil).mono ?_
    rintro e w' ⟨rfl, rfl⟩
    exact ⟨_, rfl, by show St w0 F0 w (upd (upd E i (led l r)) k0 _); rw [upd_id hi]; exact H.nilRow k0 hk _ _⟩
  | dead g =>
    refine (kmSum_none l N xof _ (kmNo_dead H j hj)).mono ?_
    rintro e w' ⟨rfl, rfl⟩
    exact ⟨_, rfl, by show St w0 F0 w (upd (upd E i (led l r)) k0 _); rw [upd_id hi]; exact H.nilRow k0 hk _ _⟩
  | live gm g S x =>
    obtain ⟨h1, h2, h3⟩ := ha S x rfl
    change E j = some (.sep (.blk gm 79 (macV g S)) (.blk g 111 x.vs)) at hj
    obtain ⟨F, HF, -, hb4⟩ := H.loc i j hij hi hj
    by_cases hN : suOk N
    · obtain ⟨N, rfl⟩ : ∃ q : Nat, N = q := ⟨N.toNat, by have := hN.1; omega⟩
      have e1 : suE (KA.live gm g S x).abs N = 0 := if_pos hN
      have e2 : suB (KA.live gm g S x).abs N xof = kmTag x N (kmBits N xof) := if_pos hN
      have e3 : suL (KA.live gm g S x).abs r N xof = noteN r 3 200 (kmSumN x N (kmBits N xof)) := if_pos hN
      rw [e1, e2, e3]
      refine (kmSum_s l r m b gm g S h3 x N (N : Int) rfl xof HF 0 1 2 3 (by omega) rfl rfl rfl rfl hg hm hb h1 h2 (by have := hN.2; omega)).mono ?_
      rintro e w' ⟨v, rfl, H1⟩
      rw [upd_laid (by simp), upd_laid (by simp)] at H1
      have hl := (H1.row 3 upd_same).1
      rw [List.length_map, Nat.mul_one] at hl
      rw [hl]
      refine ⟨v, rfl, ?_⟩
      have h := hb4 _ _ _ _ _ k0 hk (H1.push_mk rfl)
      rwa [upd_mid hij hj] at h
    · have e1 : suE (KA.live gm g S x).abs N = 2 := if_neg hN
      have e2 : suB (KA.live gm g S x).abs N xof = [] := if_neg hN
      have e3 : suL (KA.live gm g S x).abs r N xof = r := if_neg hN
      rw [e1, e2, e3]
      refine (kmSum_len l gm g S h3 N (by unfold suOk at hN; omega) xof HF 1 rfl).mono ?_
      rintro e w' ⟨rfl, rfl⟩
      exact ⟨_, rfl, by rw [upd_id hi]; exact H.nilRow k0 hk _ _⟩

theorem kmClone_any (a : KA) (ha : a.abs.Ok) (l : Value) (r : Option (List RunT)) (H : St w0 F0 w E) (i j k : Nat) (hij : i ≠ j) (hi : E i = some (led l r)) (hj : E j = some a.ownM) (hk : E k = none) :
    Calls Try.prog 31 #[a.v] w fun e w' => ∃ a' : KA, a'.abs = clA a.abs ∧ e = .returned (.tuple #[a'.v, .int .i64 (erA a.abs)]) ∧ St w0 F0 w' (upd E k a'.ownM) := by
  cases a with
  | nil =>
    refine (kmClone_none _ kmNo_nil).mono ?_
    rintro e w' ⟨rfl, rfl⟩
    exact ⟨.nil, rfl, rfl, H.nothing k hk⟩
  | dead g =>
    refine (kmClone_none _ (kmNo_dead H j hj)).mono ?_
    rintro e w' ⟨rfl, rfl⟩
    exact ⟨.nil, rfl, rfl, H.nothing k hk⟩
  | live gm g S x =>
    obtain ⟨h1, h2, h3⟩ := ha S x rfl
    change E j = some (.sep (.blk gm 79 (macV g S)) (.blk g 111 x.vs)) at hj
    obtain ⟨F, HF, -, hb4⟩ := H.loc i j hij hi hj
    refine (kmClone_s gm g S h3 x HF 1 2 3 4 rfl rfl rfl rfl (by omega) h1).mono ?_
    rintro e w' ⟨gm', g', rfl, H1⟩
    have H2 : St w F w' (lay [led l r, .blk gm 79 (macV g S), .blk g 111 x.vs, .blk gm' 79 (macV g' S), .blk g' 111 x.vs]) := H1.env fun n => by
      match n with
      | 0 => simp [upd, lay]
      | 1 => simp [upd, lay]
      | 2 => simp [upd, lay]
      | 3 => simp [upd, lay]
      | 4 => simp [upd, lay]
      | n + 5 => simp [upd, lay]
    have H3 := St.join_mk (L := [led l r, .blk gm 79 (macV g S), .blk g 111 x.vs, .blk gm' 79 (macV g' S)]) H2 3 rfl
    have h := hb4 _ _ _ _ _ k hk H3
    rw [upd_mid hij hj, upd_id hi] at h
    exact ⟨.live gm' g' S x, rfl, rfl, h⟩

theorem kmWipe_any (l : Value) (r : Option (List RunT)) (m : Nat) (b : Int) (a : KA) (ha : a.abs.Ok) (H : St w0 F0 w E) (i j : Nat) (hij : i ≠ j) (hi : E i = some (led l r)) (hj : E j = some a.ownM) (hg : LW r m b) (hm : m ≤ 999999999999) (hb : b ≤ 4000000000000000000) :
    Calls Try.prog 32 #[a.v, l] w fun e w' => ∃ a' : KA, a'.abs = wiA a.abs ∧ a'.v = a.v ∧ e = .returned (.int .i64 (erA a.abs)) ∧ St w0 F0 w' (upd (upd E i (led l (wiL a.abs r))) j a'.ownM) := by
  cases a with
  | nil =>
    refine (kmWipe_none l _ kmNo_nil).mono ?_
    rintro e w' ⟨rfl, rfl⟩
    exact ⟨.nil, rfl, rfl, rfl, H.env fun k => congrFun (upd2_id hi hj) k⟩
  | dead g =>
    refine (kmWipe_none l _ (kmNo_dead H j hj)).mono ?_
    rintro e w' ⟨rfl, rfl⟩
    exact ⟨.dead g, rfl, rfl, rfl, H.env fun k => congrFun (upd2_id hi hj) k⟩
  | live gm g S x =>
    obtain ⟨h1, h2, h3⟩ := ha S x rfl
    obtain ⟨F, HF, hb3, -⟩ := H.loc i j hij hi hj
    refine (kmWipe_s l r m b gm g S h3 x HF 0 1 2 (by omega) (by omega) (by omega) rfl rfl rfl hg hm hb h1).mono ?_
    rintro e w' ⟨rfl, H1⟩
    rw [upd_laid (by simp), upd_laid (by simp), upd_laid (by simp)] at H1
    refine ⟨.dead gm, rfl, rfl, rfl, ?_⟩
    have h := (hb3 _ _ _ _ H1).recast2 j upd_same (fun w F => sep_left)
    rwa [upd_upd] at h

theorem kmForm_any (a : KA) (ha : a.abs.Ok) (l : Value) (r : Option (List RunT)) (H : St w0 F0 w E) (i j k : Nat) (hij : i ≠ j) (hi : E i = some (led l r)) (hj : E j = some a.ownM) (hk : E k = none) :
    Calls Try.prog 28 #[a.v] w fun e w' => ∃ v, e = .returned v ∧ St w0 F0 w' (upd E k (.row 5 1 v (foB a.abs).length ((foB a.abs).map vb))) := by
  cases a with
  | nil =>
    refine (kmForm_none _ kmNo_nil).mono ?_
    rintro e w' ⟨rfl, rfl⟩
    exact ⟨_, rfl, H.nilRow k hk _ _⟩
  | dead g =>
    refine (kmForm_none _ (kmNo_dead H j hj)).mono ?_
    rintro e w' ⟨rfl, rfl⟩
    exact ⟨_, rfl, H.nilRow k hk _ _⟩
  | live gm g S x =>
    obtain ⟨h1, h2, h3⟩ := ha S x rfl
    change E j = some (.sep (.blk gm 79 (macV g S)) (.blk g 111 x.vs)) at hj
    obtain ⟨F, HF, -, hb4⟩ := H.loc i j hij hi hj
    refine (kmForm_s gm g S h3 x HF 1 2 3 rfl rfl rfl h1).mono ?_
    rintro e w' ⟨v, rfl, H1⟩
    have hl := (H1.row 3 upd_same).1
    rw [List.length_map, Nat.mul_one] at hl
    have h := hb4 _ _ _ _ _ k hk (H1.push_mk rfl)
    rw [upd_mid hij hj, upd_id hi] at h
    refine ⟨v, rfl, ?_⟩
    show St w0 F0 w' (upd E k (.row 5 1 v x.form.length (x.form.map vb)))
    rw [hl]
    exact h

theorem kmStrength_any (a : KA) (H : St w0 F0 w E) (j : Nat) (hj : E j = some a.ownM) :
    Calls Try.prog 27 #[a.v] w fun e w' => e = .returned (.int .i64 (stA a.abs)) ∧ w = w' := by
  cases a with
  | nil => exact kmStrength_none _ kmNo_nil
  | dead g => exact kmStrength_none _ (kmNo_dead H j hj)
  | live gm g S x =>
    obtain ⟨F, HF, -, -, -⟩ := H.frame1 j hj
    exact kmStrength_s gm g S (HF.as1.part_mk 0 rfl) 0 rfl

theorem kmNew_any (l : Value) (r : Option (List RunT)) (m : Nat) (b : Int) (S : Int) (A B : Option Addr) (n nc c d : Nat) (key cus : List UInt8) (H : St w0 F0 w E) (i k : Nat) (hi : E i = some (led l r)) (hk : E k = none) (hg : LW r m b) (hm : m ≤ 99999999) (hb : b ≤ 100000000000000000)
    (hA : ∀ w' X, St w0 F0 w' (upd E i X) → Rd w' 1 A n (key.map vb)) (hB : ∀ w' X, St w0 F0 w' (upd E i X) → Rd w' 1 B nc (cus.map vb)) (hn : n ≤ 1900000) (hnc : nc ≤ 1900000) :
    Calls Try.prog 24 #[l, .int .i64 S, .slice A n c, .slice B nc d] w fun e w' => ∃ a' : KA, a'.abs = neA S key cus ∧ e = .returned (.tuple #[a'.v, .int .i64 (neE S)]) ∧ St w0 F0 w' (upd (upd E i (led l (neL S r key cus))) k a'.ownM) := by
  by_cases hS : S = 128 ∨ S = 256
  · unfold neA neE neL
    rw [if_pos hS, if_pos hS, if_pos hS]
    obtain ⟨F, HF, hb1, hb2⟩ := H.loc1 i hi
    refine (kmNew_s l r m b S (kmR S) (kmR_side hS) A B n nc c d key cus HF 0 1 2 rfl rfl rfl (by omega) hg hm hb (fun w' X h => hA w' X (hb1 w' X (by rw [upd_laid (by simp)] at h; exact h))) (fun w' X h => hB w' X (hb1 w' X (by rw [upd_laid (by simp)] at h; exact h))) hn hnc).mono ?_
    rintro e w' ⟨gm, g, rfl, H1⟩
    have H2 : St w F w' (lay [led l (noteN r 3 200 (kmN (kmR S) key cus)), .blk gm 79 (macV g S), .blk g 111 (kmSp (kmR S) key cus).vs]) := H1.env fun n => by
      match n with
      | 0 => simp [upd, lay]
      | 1 => simp [upd, lay]
      | 2 => simp [upd, lay]
      | n + 3 => simp [upd, lay]
    have H3 := St.join_mk (L := [led l (noteN r 3 200 (kmN (kmR S) key cus)), .blk gm 79 (macV g S)]) H2 1 rfl
    exact ⟨.live gm g S (kmSp (kmR S) key cus), rfl, rfl, hb2 _ _ _ k hk H3⟩
  · unfold neA neE neL
    rw [if_neg hS, if_neg hS, if_neg hS]
    refine (kmNew_no l _ _ S (by constructor <;> intro e <;> exact hS (by omega)) w).mono ?_
    rintro e w' ⟨rfl, hb'⟩
    refine ⟨.nil, rfl, rfl, ?_⟩
    rw [upd_id hi]
    exact (H.call hb').nothing k hk
end

/-- a Mac's memory -/
def KA.ownR : KA → Own
  | .nil => .emp
  | .dead g => .blk g 105 [.pointer none, .int .i64 0]
  | .live gm g S x => .sep (.blk gm 105 (macV g S)) (.blk g 118 x.vsR)

section
variable {w0 w : World} {F0 : List Nat} {E : Env}

theorem rkSum_len (l : Value) (gm g : Nat) (S : Int) (hS : (S == 0) = false) (N : Int) (hN : N < 0 ∨ N > 65536) (xof : Bool) (H : St w0 F0 w E) (j : Nat) (hj : E j = some (.blk gm 105 (macV g S))) :
    Calls Try.prog 42 #[lptr gm, l, .int .i64 N, .bool xof] w fun e w' => e = .returned (.tuple #[.slice none 0 0, .int .i64 2]) ∧ w = w' := by
  have c0 := H.cell j hj (o := 0) rfl
  have c1 := H.cell j hj (o := 1) rfl
  clear H hj
  by_cases h0 : N < 0
  · have hN0 : decide (N < 0) = true := by simpa using h0
    clear hN h0
    go_enter Try.func42, Try.ntmps42
    go_wp2_with fail
    refine (rkNone_no gm g w c0).mono ?_
    rintro e w1 ⟨rfl, rfl⟩
    go_wp2
    go_ret2
    exact ⟨rfl, rfl⟩
  · have hN0 : decide (N < 0) = false := by simpa using h0
    have hN1 : decide (N > 65536) = true := by simp; omega
    clear hN h0
    go_enter Try.func42, Try.ntmps42
    go_wp2_with fail
    refine (rkNone_no gm g w c0).mono ?_
    rintro e w1 ⟨rfl, rfl⟩
    go_wp2
    go_ret2
    exact ⟨rfl, rfl⟩

theorem rkNo_nil : RkNo w (KA.nil).v := .inl rfl
theorem rkNo_dead {g : Nat} (H : St w0 F0 w E) (j : Nat) (hj : E j = some (KA.dead g).ownR) : RkNo w (KA.dead g).v := .inr ⟨g, rfl, H.cell (g := g) (T := 105) (cs := [.pointer none, .int .i64 0]) j hj rfl⟩

theorem rkWrite_any (l : Value) (r : Option (List RunT)) (m : Nat) (b : Int) (a : KA) (ha : a.abs.Ok) (A : Option Addr) (n c : Nat) (q : List UInt8) (H : St w0 F0 w E) (i j : Nat) (hij : i ≠ j) (hi : E i = some (ledR l r)) (hj : E j = some a.ownR) (hg : LW r m b) (hm : m ≤ 999999999999) (hb : b ≤ 4000000000000000000)
    (hR : ∀ w' X Y, St w0 F0 w' (upd (upd E i X) j Y) → Rd w' 1 A n (q.map vb)) (hn : n ≤ 281474976710656) :
    Calls Try.prog 41 #[a.v, l, .slice A n c] w fun e w' => ∃ a' : KA, a'.abs = wrA a.abs q ∧ a'.v = a.v ∧ e = .returned (.int .i64 (erA a.abs)) ∧ St w0 F0 w' (upd (upd E i (ledR l (wrL a.abs r n))) j a'.ownR) := by
  cases a with
  | nil =>
    refine (rkWrite_none l (.slice A n c) _ rkNo_nil).mono ?_
    rintro e w' ⟨rfl, rfl⟩
    exact ⟨.nil, rfl, rfl, rfl, H.env fun k => congrFun (upd2_id hi hj) k⟩
  | dead g =>
    refine (rkWrite_none l (.slice A n c) _ (rkNo_dead H j hj)).mono ?_
    rintro e w' ⟨rfl, rfl⟩
    exact ⟨.dead g, rfl, rfl, rfl, H.env fun k => congrFun (upd2_id hi hj) k⟩
  | live gm g S x =>
    obtain ⟨h1, h2, h3⟩ := ha S x rfl
    obtain ⟨F, HF, hb3, -⟩ := H.loc i j hij hi hj
    refine (rkWrite_s l r m b gm g S h3 x A n c q HF 0 1 2 (by omega) rfl rfl rfl hg hm hb h1 h2 (fun w' X Y h => hR w' X _ (hb3 w' X _ Y (by rw [upd_laid (by simp), upd_laid (by simp)] at h; exact h))) hn).mono ?_
    rintro e w' ⟨rfl, H1⟩
    rw [upd_laid (by simp), upd_laid (by simp)] at H1
    exact ⟨.live gm g S (x.write q), rfl, rfl, rfl, hb3 _ _ _ _ H1⟩

theorem rkSum_any (l : Value) (r : Option (List RunT)) (m : Nat) (b : Int) (a : KA) (ha : a.abs.Ok) (N : Int) (xof : Bool) (H : St w0 F0 w E) (i j k0 : Nat) (hij : i ≠ j) (hi : E i = some (ledR l r)) (hj : E j = some a.ownR) (hk : E k0 = none) (hg : LW r m b) (hm : m ≤ 99999999999) (hb : b ≤ 3000000000000000000) :
    Calls Try.prog 42 #[a.v, l, .int .i64 N, .bool xof] w fun e w' => ∃ v, e = .returned (.tuple #[v, .int .i64 (suE a.abs N)]) ∧ St w0 F0 w' (upd (upd E i (ledR l (suL a.abs r N xof))) k0 (.row 5 1 v (suB a.abs N xof).length ((suB a.abs N xof).map vb))) := by
  cases a with
  | nil =>
    refine (rkSum_none l N xof _ rkNo_nil).mono ?_
    rintro e w' ⟨rfl, rfl⟩
    exact ⟨_, rfl, by show St w0 F0 w (upd (upd E i (ledR l r)) k0 _); rw [upd_id hi]; exact H.nilRow k0 hk _ _⟩
  | dead g =>
    refine (rkSum_none l N xof _ (rkNo_dead H j hj)).mono ?_
    rintro e w' ⟨rfl, rfl⟩
    exact ⟨_, rfl, by show St w0 F0 w (upd (upd E i (ledR l r)) k0 _); rw [upd_id hi]; exact H.nilRow k0 hk _ _⟩
  | live gm g S x =>
    obtain ⟨h1, h2, h3⟩ := ha S x rfl
    change E j = some (.sep (.blk gm 105 (macV g S)) (.blk g 118 x.vsR)) at hj
    obtain ⟨F, HF, -, hb4⟩ := H.loc i j hij hi hj
    by_cases hN : suOk N
    · obtain ⟨N, rfl⟩ : ∃ q : Nat, N = q := ⟨N.toNat, by have := hN.1; omega⟩
      have e1 : suE (KA.live gm g S x).abs N = 0 := if_pos hN
      have e2 : suB (KA.live gm g S x).abs N xof = kmTag x N (kmBits N xof) := if_pos hN
      have e3 : suL (KA.live gm g S x).abs r N xof = noteN r 3 200 (kmSumN x N (kmBits N xof)) := if_pos hN
      rw [e1, e2, e3]
      refine (rkSum_s l r m b gm g S h3 x N (N : Int) rfl xof HF 0 1 2 3 (by omega) rfl rfl rfl rfl hg hm hb h1 h2 (by have := hN.2; omega)).mono ?_
      rintro e w' ⟨v, rfl, H1⟩
      rw [upd_laid (by simp), upd_laid (by simp)] at H1
      have hl := (H1.row 3 upd_same).1
      rw [List.length_map, Nat.mul_one] at hl
      rw [hl]
      refine ⟨v, rfl, ?_⟩
      have h := hb4 _ _ _ _ _ k0 hk (H1.push_mk rfl)
      rwa [upd_mid hij hj] at h
    · have e1 : suE (KA.live gm g S x).abs N = 2 := if_neg hN
      have e2 : suB (KA.live gm g S x).abs N xof = [] := if_neg hN
      have e3 : suL (KA.live gm g S x).abs r N xof = r := if_neg hN
      rw [e1, e2, e3]
      refine (rkSum_len l gm g S h3 N (by unfold suOk at hN; omega) xof HF 1 rfl).mono ?_
      rintro e w' ⟨rfl, rfl⟩
      exact ⟨_, rfl, by rw [upd_id hi]; exact H.nilRow k0 hk _ _⟩

theorem rkClone_any (a : KA) (ha : a.abs.Ok) (l : Value) (r : Option (List RunT)) (H : St w0 F0 w E) (i j k : Nat) (hij : i ≠ j) (hi : E i = some (ledR l r)) (hj : E j = some a.ownR) (hk : E k = none) :
    Calls Try.prog 56 #[a.v] w fun e w' => ∃ a' : KA, a'.abs = clA a.abs ∧ e = .returned (.tuple #[a'.v, .int .i64 (erA a.abs)]) ∧ St w0 F0 w' (upd E k a'.ownR) := by
  cases a with
  | nil =>
    refine (rkClone_none _ rkNo_nil).mono ?_
    rintro e w' ⟨rfl, rfl⟩
    exact ⟨.nil, rfl, rfl, H.nothing k hk⟩
  | dead g =>
    refine (rkClone_none _ (rkNo_dead H j hj)).mono ?_
    rintro e w' ⟨rfl, rfl⟩
    exact ⟨.nil, rfl, rfl, H.nothing k hk⟩
  | live gm g S x =>
    obtain ⟨h1, h2, h3⟩ := ha S x rfl
    change E j = some (.sep (.blk gm 105 (macV g S)) (.blk g 118 x.vsR)) at hj
    obtain ⟨F, HF, -, hb4⟩ := H.loc i j hij hi hj
    refine (rkClone_s gm g S h3 x HF 1 2 3 4 rfl rfl rfl rfl (by omega) h1).mono ?_
    rintro e w' ⟨gm', g', rfl, H1⟩
    have H2 : St w F w' (lay [ledR l r, .blk gm 105 (macV g S), .blk g 118 x.vsR, .blk gm' 105 (macV g' S), .blk g' 118 x.vsR]) := H1.env fun n => by
      match n with
      | 0 => simp [upd, lay]
      | 1 => simp [upd, lay]
      | 2 => simp [upd, lay]
      | 3 => simp [upd, lay]
      | 4 => simp [upd, lay]
      | n + 5 => simp [upd, lay]
    have H3 := St.join_mk (L := [ledR l r, .blk gm 105 (macV g S), .blk g 118 x.vsR, .blk gm' 105 (macV g' S)]) H2 3 rfl
    have h := hb4 _ _ _ _ _ k hk H3
    rw [upd_mid hij hj, upd_id hi] at h
    exact ⟨.live gm' g' S x, rfl, rfl, h⟩

theorem rkWipe_any (l : Value) (r : Option (List RunT)) (m : Nat) (b : Int) (a : KA) (ha : a.abs.Ok) (H : St w0 F0 w E) (i j : Nat) (hij : i ≠ j) (hi : E i = some (ledR l r)) (hj : E j = some a.ownR) (hg : LW r m b) (hm : m ≤ 999999999999) (hb : b ≤ 4000000000000000000) :
    Calls Try.prog 57 #[a.v, l] w fun e w' => ∃ a' : KA, a'.abs = wiA a.abs ∧ a'.v = a.v ∧ e = .returned (.int .i64 (erA a.abs)) ∧ St w0 F0 w' (upd (upd E i (ledR l (wiL a.abs r))) j a'.ownR) := by
  cases a with
  | nil =>
    refine (rkWipe_none l _ rkNo_nil).mono ?_
    rintro e w' ⟨rfl, rfl⟩
    exact ⟨.nil, rfl, rfl, rfl, H.env fun k => congrFun (upd2_id hi hj) k⟩
  | dead g =>
    refine (rkWipe_none l _ (rkNo_dead H j hj)).mono ?_
    rintro e w' ⟨rfl, rfl⟩
    exact ⟨.dead g, rfl, rfl, rfl, H.env fun k => congrFun (upd2_id hi hj) k⟩
  | live gm g S x =>
    obtain ⟨h1, h2, h3⟩ := ha S x rfl
    obtain ⟨F, HF, hb3, -⟩ := H.loc i j hij hi hj
    refine (rkWipe_s l r m b gm g S h3 x HF 0 1 2 (by omega) (by omega) (by omega) rfl rfl rfl hg hm hb h1).mono ?_
    rintro e w' ⟨rfl, H1⟩
    rw [upd_laid (by simp), upd_laid (by simp), upd_laid (by simp)] at H1
    refine ⟨.dead gm, rfl, rfl, rfl, ?_⟩
    have h := (hb3 _ _ _ _ H1).recast2 j upd_same (fun w F => sep_left)
    rwa [upd_upd] at h

theorem rkForm_any (a : KA) (ha : a.abs.Ok) (l : Value) (r : Option (List RunT)) (H : St w0 F0 w E) (i j k : Nat) (hij : i ≠ j) (hi : E i = some (ledR l r)) (hj : E j = some a.ownR) (hk : E k = none) :
    Calls Try.prog 58 #[a.v] w fun e w' => ∃ v, e = .returned v ∧ St w0 F0 w' (upd E k (.row 5 1 v (foB a.abs).length ((foB a.abs).map vb))) := by
  cases a with
  | nil =>
    refine (rkForm_none _ rkNo_nil).mono ?_
    rintro e w' ⟨rfl, rfl⟩
    exact ⟨_, rfl, H.nilRow k hk _ _⟩
  | dead g =>
    refine (rkForm_none _ (rkNo_dead H j hj)).mono ?_
    rintro e w' ⟨rfl, rfl⟩
    exact ⟨_, rfl, H.nilRow k hk _ _⟩
  | live gm g S x =>
    obtain ⟨h1, h2, h3⟩ := ha S x rfl
    change E j = some (.sep (.blk gm 105 (macV g S)) (.blk g 118 x.vsR)) at hj
    obtain ⟨F, HF, -, hb4⟩ := H.loc i j hij hi hj
    refine (rkForm_s gm g S h3 x HF 1 2 3 rfl rfl rfl h1).mono ?_
    rintro e w' ⟨v, rfl, H1⟩
    have hl := (H1.row 3 upd_same).1
    rw [List.length_map, Nat.mul_one] at hl
    have h := hb4 _ _ _ _ _ k hk (H1.push_mk rfl)
    rw [upd_mid hij hj, upd_id hi] at h
    refine ⟨v, rfl, ?_⟩
    show St w0 F0 w' (upd E k (.row 5 1 v x.form.length (x.form.map vb)))
    rw [hl]
    exact h

theorem rkStrength_any (a : KA) (H : St w0 F0 w E) (j : Nat) (hj : E j = some a.ownR) :
    Calls Try.prog 59 #[a.v] w fun e w' => e = .returned (.int .i64 (stA a.abs)) ∧ w = w' := by
  cases a with
  | nil => exact rkStrength_none _ rkNo_nil
  | dead g => exact rkStrength_none _ (rkNo_dead H j hj)
  | live gm g S x =>
    obtain ⟨F, HF, -, -, -⟩ := H.frame1 j hj
    exact rkStrength_s gm g S (HF.as1.part_mk 0 rfl) 0 rfl

theorem rkNew_any (l : Value) (r : Option (List RunT)) (m : Nat) (b : Int) (S : Int) (A B : Option Addr) (n nc c d : Nat) (key cus : List UInt8) (H : St w0 F0 w E) (i k : Nat) (hi : E i = some (ledR l r)) (hk : E k = none) (hg : LW r m b) (hm : m ≤ 99999999) (hb : b ≤ 100000000000000000)
    (hA : ∀ w' X, St w0 F0 w' (upd E i X) → Rd w' 1 A n (key.map vb)) (hB : ∀ w' X, St w0 F0 w' (upd E i X) → Rd w' 1 B nc (cus.map vb)) (hn : n ≤ 1900000) (hnc : nc ≤ 1900000) :
    Calls Try.prog 40 #[l, .int .i64 S, .slice A n c, .slice B nc d] w fun e w' => ∃ a' : KA, a'.abs = neA S key cus ∧ e = .returned (.tuple #[a'.v, .int .i64 (neE S)]) ∧ St w0 F0 w' (upd (upd E i (ledR l (neL S r key cus))) k a'.ownR) := by
  by_cases hS : S = 128 ∨ S = 256
  · unfold neA neE neL
    rw [if_pos hS, if_pos hS, if_pos hS]
    obtain ⟨F, HF, hb1, hb2⟩ := H.loc1 i hi
    refine (rkNew_s l r m b S (kmR S) (kmR_side hS) A B n nc c d key cus HF 0 1 2 rfl rfl rfl (by omega) hg hm hb (fun w' X h => hA w' X (hb1 w' X (by rw [upd_laid (by simp)] at h; exact h))) (fun w' X h => hB w' X (hb1 w' X (by rw [upd_laid (by simp)] at h; exact h))) hn hnc).mono ?_
    rintro e w' ⟨gm, g, rfl, H1⟩
    have H2 : St w F w' (lay [ledR l (noteN r 3 200 (kmN (kmR S) key cus)), .blk gm 105 (macV g S), .blk g 118 (kmSp (kmR S) key cus).vsR]) := H1.env fun n => by
      match n with
      | 0 => simp [upd, lay]
      | 1 => simp [upd, lay]
      | 2 => simp [upd, lay]
      | n + 3 => simp [upd, lay]
    have H3 := St.join_mk (L := [ledR l (noteN r 3 200 (kmN (kmR S) key cus)), .blk gm 105 (macV g S)]) H2 1 rfl
    exact ⟨.live gm g S (kmSp (kmR S) key cus), rfl, rfl, hb2 _ _ _ k hk H3⟩
  · unfold neA neE neL
    rw [if_neg hS, if_neg hS, if_neg hS]
    refine (rkNew_no l _ _ S (by constructor <;> intro e <;> exact hS (by omega)) w).mono ?_
    rintro e w' ⟨rfl, hb'⟩
    refine ⟨.nil, rfl, rfl, ?_⟩
    rw [upd_id hi]
    first | exact (H.call hb').nothing k hk | (subst hb'; exact H.nothing k hk)
end
end Go.Proofs.Ythoopaknldkclaa

namespace Go.Proofs.Ythoopaknldkclaa
open Go.RowKit
set_option linter.unusedVariables false

theorem pick_any (x : Int) (N : Nat) (w : World) (h1 : -9223372036854775808 ≤ x) (h2 : x ≤ 9223372036854775807) (hN1 : 1 ≤ N) (hN : N ≤ 1099511627776) {b : Int} (hb : b = (N : Int)) :
    Calls Try.prog 33 #[.int .i64 x, .int .i64 b] w fun e w' => (∃ n : Nat, n < N ∧ (n : Int) = x % (N : Int) ∧ e = .returned (.int .i64 (n : Int))) ∧ w = w' := by
  subst hb
  have h4 := Int.emod_nonneg x (show (N : Int) ≠ 0 by omega)
  have h5 := Int.emod_lt_of_pos x (show (0 : Int) < N by omega)
  have hr : x.tmod N = x % N ∨ x.tmod N = x % N - N := by
    rw [Int.tmod_eq_emod (a := x) (b := (N : Int))]
    split
    · left; simp
    · right; simp
  generalize x % (N : Int) = y at *
  obtain ⟨r, hr'⟩ : ∃ r, x.tmod N = r := ⟨_, rfl⟩
  rw [hr'] at hr
  have HM : Hid (y = if r < 0 then r + N else r) := by unfold Hid; split <;> omega
  have hlt : r < N := by omega
  have hgt : -(N : Int) ≤ r := by omega
  clear hr h4 h5
  by_cases hneg : r < 0
  · have HY : Hid (y = r + N) := by have h := HM.out; rw [if_pos hneg] at h; exact h
    clear HM
    go_enter Try.func33, Try.ntmps33
    go_wp2
    go_ret
    exact ⟨⟨(r + N).toNat, by omega, by rw [HY.out]; omega, by go_num⟩, rfl⟩
  · have HY : Hid (y = r) := by have h := HM.out; rw [if_neg hneg] at h; exact h
    clear HM
    go_enter Try.func33, Try.ntmps33
    go_wp2
    go_ret
    exact ⟨⟨r.toNat, by omega, by rw [HY.out]; omega, by go_num⟩, rfl⟩
end Go.Proofs.Ythoopaknldkclaa

namespace Go.Proofs.Ythoopaknldkclaa
open Go.RowKit
set_option linter.unusedVariables false
set_option maxRecDepth 100000

attribute [local irreducible] permB kBytes kPerm kFrom kmTag kmSumN kmSp kmN

theorem St.tellSlot {w0 w : World} {F0 : List Nat} {L0 : List Own} {L : List Tp} {x : Tp} (H : St w0 F0 w (lay (L0 ++ [x.own]))) (i : Nat) (hi : L0[i]? = some (bigO Tp.own L)) : St w0 F0 w (lay (L0.set i (bigO Tp.own (L ++ [x])))) := by
  have hl : i < L0.length := (List.getElem?_eq_some_iff.1 hi).1
  have h1 := (H.join_mk i hi).recast (A := .sep (bigO Tp.own L) x.own) (A' := bigO Tp.own (L ++ [x])) i (by simp only [lay]; rw [List.getElem?_set_self hl]) (fun w F h => bigO_snoc Tp.own x L w F h)
  have h2 := h1.upd_mk (by simpa using hl)
  rwa [List.set_set] at h2

section
variable {w0 w : World} {F0 : List Nat} {E : Env}

set_option maxHeartbeats 4000000 in
theorem kmKeep_s (gx : Nat) (a0 a1 a2 b0 b1 b2 c6 c7 : Value) (P1 P2 P3 P6 P7 P8 P9 : Own) (At Aw Aa Ab : Option Addr) (n ct cw la ca cb : Nat) (vs us : List Value) (xs : List UInt8) (hn : n ≤ 1000) (hla : la ≤ 100000000)
    (H : St w0 F0 w (lay [.blk gx 72 [a0, a1, a2, b0, b1, b2, c6, c7, .slice At n ct, .slice Aw n cw], P1, P2, P3, .row 22 1 (.slice At n ct) n vs, .row 22 1 (.slice Aw n cw) n us, P6, P7, P8, P9, .row 5 1 (.slice Aa la ca) la (xs.map vb), .row 5 1 (.slice Ab la cb) la (xs.map vb)])) :
    Calls Try.prog 55 #[lptr gx, .slice Aa la ca, .slice Ab la cb] w fun e w' => ∃ Av6 dv6 Av9 dv9, e = .returned (.bool true) ∧ St w0 F0 w' (lay [.blk gx 72 [a0, a1, a2, b0, b1, b2, c6, c7, .slice Av6 (n + 1) dv6, .slice Av9 (n + 1) dv9], P1, P2, P3, .row 22 1 (.slice Av6 (n + 1) dv6) (n + 1) (vs ++ [.slice Aa la ca]), .row 22 1 (.slice Av9 (n + 1) dv9) (n + 1) (us ++ [.slice Ab la cb]), P6, P7, P8, P9, .row 5 1 (.slice Aa la ca) la (xs.map vb), .row 5 1 (.slice Ab la cb) la (xs.map vb)]) := by
  obtain ⟨i0, hi0, hz0, hz1, hz2⟩ := info_parts lb_info
  have HI := Lib.hid (⟨hi0, hz0, hz1, hz2⟩ : _ ∧ _ ∧ _ ∧ _)
  clear hi0 hz0 hz1 hz2
  have x8 := H.cell 0 rfl (o := 8) rfl
  unfold lptr
  go_enter Try.func55, Try.ntmps55
  go_wp2_with (at_builtin; refine hold_here' ?_)
  refine Lib.hid ?_
  refine absorb_list (H.allocAt 12 rfl w.heap.size rfl #[.slice Aa la ca] 22 |>.push_mk rfl) ?_
  clear H x8
  intro w5 H
  generalize w.heap.size = gN at H ⊢
  refine wpList_append_any _ rfl (.tmp 11) (.tmp 13) _ rfl 0 22 i0 _ 1 24 Try.underlying46 HI.out.1 HI.out.2.1 HI.out.2.2.1 HI.out.2.2.2 rfl (by omega) (.slice At n ct) n vs rfl (H.row 4 rfl) (some ⟨gN, 0, none⟩) 1 1 [.slice Aa la ca] rfl (H.rdBlk 12 rfl 1 1 rfl) (by intro u hu; simp at hu; subst hu; rfl) (by simp only [maxLen]; omega) (by omega) (by omega) ?_
  intro v6 w6 hown6 hg6 hat6
  obtain ⟨Av6, dv6, rfl, -, -⟩ := row_form hown6
  replace H := ((H.grow 4 rfl hown6 hg6 hat6).upd_mk (by simp)).front 12
  clear hown6 hg6 hat6
  have hfr := H.free 0 rfl 8
  have hce := H.cell 0 rfl (o := 8) rfl
  have x8 := H.cell 0 rfl (o := 9) rfl
  have hst := (H.store 0 rfl (o := 8) (u := .slice Av6 (n + 1) dv6)).upd_mk (by simp)
  clear H
  replace H : St w0 F0 (w6.setCell ⟨gx, 8, none⟩ (.slice Av6 (n + 1) dv6)) (lay [.blk gx 72 [a0, a1, a2, b0, b1, b2, c6, c7, .slice Av6 (n + 1) dv6, .slice Aw n cw], P1, P2, P3, .row 22 1 (.slice Av6 (n + 1) dv6) (n + 1) (vs ++ [.slice Aa la ca]), .row 22 1 (.slice Aw n cw) n us, P6, P7, P8, P9, .row 5 1 (.slice Aa la ca) la (xs.map vb), .row 5 1 (.slice Ab la cb) la (xs.map vb)]) := hst
  clear hst
  go_wp2_with (at_builtin; refine hold_here' ?_)
  refine Lib.hid ?_
  refine absorb_list (H.allocAt 12 rfl w6.heap.size (by simp) #[.slice Ab la cb] 22 |>.push_mk rfl) ?_
  clear H x8
  intro y5 H
  generalize w6.heap.size = gN at H ⊢
  refine wpList_append_any _ rfl (.tmp 21) (.tmp 23) _ rfl 0 22 i0 _ 1 24 Try.underlying46 HI.out.1 HI.out.2.1 HI.out.2.2.1 HI.out.2.2.2 rfl (by omega) (.slice Aw n cw) n us rfl (H.row 5 rfl) (some ⟨gN, 0, none⟩) 1 1 [.slice Ab la cb] rfl (H.rdBlk 12 rfl 1 1 rfl) (by intro u hu; simp at hu; subst hu; rfl) (by simp only [maxLen]; omega) (by omega) (by omega) ?_
  intro v9 y6 hown6 hg6 hat6
  obtain ⟨Av9, dv9, rfl, -, -⟩ := row_form hown6
  replace H := ((H.grow 5 rfl hown6 hg6 hat6).upd_mk (by simp)).front 12
  clear hown6 hg6 hat6
  have hfr := H.free 0 rfl 9
  have hce := H.cell 0 rfl (o := 9) rfl
  have hst := (H.store 0 rfl (o := 9) (u := .slice Av9 (n + 1) dv9)).upd_mk (by simp)
  clear H
  replace H : St w0 F0 (y6.setCell ⟨gx, 9, none⟩ (.slice Av9 (n + 1) dv9)) (lay [.blk gx 72 [a0, a1, a2, b0, b1, b2, c6, c7, .slice Av6 (n + 1) dv6, .slice Av9 (n + 1) dv9], P1, P2, P3, .row 22 1 (.slice Av6 (n + 1) dv6) (n + 1) (vs ++ [.slice Aa la ca]), .row 22 1 (.slice Av9 (n + 1) dv9) (n + 1) (us ++ [.slice Ab la cb]), P6, P7, P8, P9, .row 5 1 (.slice Aa la ca) la (xs.map vb), .row 5 1 (.slice Ab la cb) la (xs.map vb)]) := hst
  clear hst
  go_wp2_with fail
  refine absorb_calls H ?_
  clear H
  intro z1 H
  refine (sameBytes_yes Aa Ab la la ca cb xs xs _ (H.rd 10 rfl) (H.rd 11 rfl) (by omega) (by omega) rfl).mono ?_
  rintro e z2 ⟨rfl, hb⟩
  replace H := H.call hb
  clear hb
  go_wp2
  go_ret
  exact ⟨_, _, _, _, rfl, H⟩

/-- a slot: the module's Mac, the document's -/
abbrev slotO (p : KA × KA) : Own := .sep p.1.ownM p.2.ownR
/-- a slot is right -/
def SlotOk (p : KA × KA) : Prop := p.1.abs.Ok ∧ p.2.abs = p.1.abs

theorem three_get {p0 p1 p2 p : KA × KA} {k : Nat} (h : [p0, p1, p2][k]? = some p) (c d e f : Value) : k < 3 ∧ ([p0.1.v, p1.1.v, p2.1.v, p0.2.v, p1.2.v, p2.2.v, c, d, e, f] : List Value)[k]? = some p.1.v ∧ ([p0.1.v, p1.1.v, p2.1.v, p0.2.v, p1.2.v, p2.2.v, c, d, e, f] : List Value)[3 + k]? = some p.2.v := by
  match k, h with
  | 0, h => cases h; exact ⟨by omega, rfl, rfl⟩
  | 1, h => cases h; exact ⟨by omega, rfl, rfl⟩
  | 2, h => cases h; exact ⟨by omega, rfl, rfl⟩
  | k + 3, h => simp at h

theorem KA.kind {a b : KA} {s : KS} (ha : a.abs = clA s) (hb : b.abs = clA s) : (a = .nil ∧ b = .nil) ∨ ∃ gm g gm' g' S x, a = .live gm g S x ∧ b = .live gm' g' S x := by
  have none_case : ∀ {s : KS}, clA s = none → a.abs = clA s → b.abs = clA s → a = .nil ∧ b = .nil := by
    intro s hs h1 h2
    rw [hs] at h1 h2
    cases a with
    | nil =>
      cases b with
      | nil => exact ⟨rfl, rfl⟩
      | dead g => cases h2
      | live gm g S x => cases h2
    | dead g => cases h1
    | live gm g S x => cases h1
  rcases s with _ | _ | ⟨S, x⟩
  · exact .inl (none_case rfl ha hb)
  · exact .inl (none_case rfl ha hb)
  · right
    cases a with
    | nil => cases ha
    | dead g => cases ha
    | live gm g S' x' =>
      cases b with
      | nil => cases hb
      | dead g => cases hb
      | live gm' g' S'' x'' =>
        injection ha with ha
        injection ha with ha
        injection ha with h1 h2
        injection hb with hb
        injection hb with hb
        injection hb with h3 h4
        subst h1 h2 h3 h4
        exact ⟨_, _, _, _, _, _, rfl, rfl⟩

theorem noteN_some {r : Option (List RunT)} (h : ∃ rs, r = some rs) (k s : Int) (n : Nat) : ∃ rs, noteN r k s n = some rs := by
  obtain ⟨rs, rfl⟩ := h
  unfold noteN
  split
  · exact ⟨_, rfl⟩
  · exact ⟨_, rfl⟩
theorem wrL_some {s : KS} {r : Option (List RunT)} (h : ∃ rs, r = some rs) (n : Nat) : ∃ rs, wrL s r n = some rs := by
  unfold wrL; split
  · exact noteN_some h _ _ _
  · exact h
theorem suL_some {s : KS} {r : Option (List RunT)} (h : ∃ rs, r = some rs) (N : Int) (x : Bool) : ∃ rs, suL s r N x = some rs := by
  unfold suL; split
  · split
    · exact noteN_some h _ _ _
    · exact h
  · exact h
theorem wiL_some {s : KS} {r : Option (List RunT)} (h : ∃ rs, r = some rs) : ∃ rs, wiL s r = some rs := by
  unfold wiL; split
  · exact noteN_some h _ _ _
  · exact h

section
variable {w0 w : World} {L1 L2 T U V X Y Z : Own} {p0 p1 p2 p : KA × KA} {k q gx : Nat} {c d e f : Value}

theorem St.rot3 {w0 w : World} {F0 : List Nat} {L : List Own} {X Y Z : Own} (H : St w0 F0 w (lay (L ++ [X, Y, Z]))) : St w0 F0 w (lay (L ++ [Z, X, Y])) :=
  H.pick (fun i => if i < L.length then i else if i = L.length then i + 2 else if i < L.length + 3 then i - 1 else i) (fun i j h => by split at h <;> split at h <;> (try split at h) <;> (try split at h) <;> (try split at h) <;> (try split at h) <;> omega) fun k C hC => by
    simp only [lay] at hC ⊢
    by_cases hk : k < L.length
    · rw [if_pos hk, List.getElem?_append_left hk]
      rwa [List.getElem?_append_left hk] at hC
    · rw [if_neg hk, List.getElem?_append_right (by split <;> (try split) <;> omega)]
      rw [List.getElem?_append_right (by omega)] at hC
      have hlt := (List.getElem?_eq_some_iff.1 hC).1
      simp at hlt
      have h3 : k - L.length = 0 ∨ k - L.length = 1 ∨ k - L.length = 2 := by omega
      rcases h3 with h3 | h3 | h3
      · rw [h3] at hC
        rw [if_pos (by omega), show k + 2 - L.length = 2 by omega]
        exact hC
      · rw [h3] at hC
        rw [if_neg (by omega), if_pos (by omega), show k - 1 - L.length = 0 by omega]
        exact hC
      · rw [h3] at hC
        rw [if_neg (by omega), if_pos (by omega), show k - 1 - L.length = 1 by omega]
        exact hC

/-- the slot is laid back -/
theorem act_end (hk : [p0, p1, p2][k]? = some p) {a b : KA} (h1 : a.v = p.1.v) (h2 : b.v = p.2.v) (hab : SlotOk (a, b)) (hok : SlotOk p0 ∧ SlotOk p1 ∧ SlotOk p2)
    (H : St w0 [] w (lay [.blk gx 72 [p0.1.v, p1.1.v, p2.1.v, p0.2.v, p1.2.v, p2.2.v, c, d, e, f], L1, L2, bigO slotO ([p0, p1, p2].set k (.nil, .nil)), T, U, V, X, a.ownM, b.ownR])) :
    ∃ q0 q1 q2 : KA × KA, (SlotOk q0 ∧ SlotOk q1 ∧ SlotOk q2) ∧ St w0 [] w (lay [.blk gx 72 [q0.1.v, q1.1.v, q2.1.v, q0.2.v, q1.2.v, q2.2.v, c, d, e, f], L1, L2, bigO slotO [q0, q1, q2], T, U, V]) := by
  obtain ⟨hk3, -, -⟩ := three_get hk c d e f
  have H1 := St.join_mk (L := [.blk gx 72 [p0.1.v, p1.1.v, p2.1.v, p0.2.v, p1.2.v, p2.2.v, c, d, e, f], L1, L2, bigO slotO ([p0, p1, p2].set k (.nil, .nil)), T, U, V, X, a.ownM]) H 8 rfl
  have H2 := St.putSlot (f := slotO) (x := (a, b)) (L0 := [.blk gx 72 [p0.1.v, p1.1.v, p2.1.v, p0.2.v, p1.2.v, p2.2.v, c, d, e, f], L1, L2, bigO slotO ([p0, p1, p2].set k (.nil, .nil)), T, U, V, X]) H1 3 k rfl (by simpa using hk3)
  rw [List.set_set] at H2
  replace H2 := H2.front 7
  match k, hk with
  | 0, hk =>
    cases hk
    exact ⟨(a, b), p1, p2, ⟨hab, hok.2⟩, by show St w0 [] w (lay [.blk gx 72 [a.v, p1.1.v, p2.1.v, b.v, p1.2.v, p2.2.v, c, d, e, f], L1, L2, bigO slotO [(a, b), p1, p2], T, U, V]); rw [h1, h2]; exact H2⟩
  | 1, hk =>
    cases hk
    exact ⟨p0, (a, b), p2, ⟨hok.1, hab, hok.2.2⟩, by show St w0 [] w (lay [.blk gx 72 [p0.1.v, a.v, p2.1.v, p0.2.v, b.v, p2.2.v, c, d, e, f], L1, L2, bigO slotO [p0, (a, b), p2], T, U, V]); rw [h1, h2]; exact H2⟩
  | 2, hk =>
    cases hk
    exact ⟨p0, p1, (a, b), ⟨hok.1, hok.2.1, hab⟩, by show St w0 [] w (lay [.blk gx 72 [p0.1.v, p1.1.v, a.v, p0.2.v, p1.2.v, b.v, c, d, e, f], L1, L2, bigO slotO [p0, p1, (a, b)], T, U, V]); rw [h1, h2]; exact H2⟩
  | k + 3, hk => simp at hk

/-- the slot is laid back, another one laid new -/
theorem act_end2 (hk : [p0, p1, p2][k]? = some p) (hq : q < 3) {a b : KA} (hab : SlotOk (a, b)) (hok : SlotOk p0 ∧ SlotOk p1 ∧ SlotOk p2)
    (H : St w0 [] w (lay [.blk gx 72 (([p0.1.v, p1.1.v, p2.1.v, p0.2.v, p1.2.v, p2.2.v, c, d, e, f].set q a.v).set (3 + q) b.v), L1, L2, bigO slotO ([p0, p1, p2].set k (.nil, .nil)), T, U, V, X, p.1.ownM, p.2.ownR, a.ownM, b.ownR])) :
    ∃ q0 q1 q2 : KA × KA, (SlotOk q0 ∧ SlotOk q1 ∧ SlotOk q2) ∧ St w0 [] w (lay [.blk gx 72 [q0.1.v, q1.1.v, q2.1.v, q0.2.v, q1.2.v, q2.2.v, c, d, e, f], L1, L2, bigO slotO [q0, q1, q2], T, U, V]) := by
  obtain ⟨hk3, -, -⟩ := three_get hk c d e f
  obtain ⟨C, hC⟩ : ∃ C, (([p0.1.v, p1.1.v, p2.1.v, p0.2.v, p1.2.v, p2.2.v, c, d, e, f].set q a.v).set (3 + q) b.v) = C := ⟨_, rfl⟩
  rw [hC] at H
  have H1 := St.join_mk (L := [.blk gx 72 C, L1, L2, bigO slotO ([p0, p1, p2].set k (.nil, .nil)), T, U, V, X, p.1.ownM, p.2.ownR, a.ownM]) H 10 rfl
  have H2 := St.rot3 (L := [.blk gx 72 C, L1, L2, bigO slotO ([p0, p1, p2].set k (.nil, .nil)), T, U, V, X]) (X := p.1.ownM) (Y := p.2.ownR) (Z := slotO (a, b)) H1
  have H3 := St.join_mk (L := [.blk gx 72 C, L1, L2, bigO slotO ([p0, p1, p2].set k (.nil, .nil)), T, U, V, X, slotO (a, b), p.1.ownM]) H2 9 rfl
  have H4 := St.putSlot (f := slotO) (x := p) (L0 := [.blk gx 72 C, L1, L2, bigO slotO ([p0, p1, p2].set k (.nil, .nil)), T, U, V, X, slotO (a, b)]) H3 3 k rfl (by simpa using hk3)
  have hkk : ([p0, p1, p2].set k ((.nil : KA), (.nil : KA))).set k p = [p0, p1, p2] := by
    rw [List.set_set]
    match k, hk with
    | 0, hk => cases hk; rfl
    | 1, hk => cases hk; rfl
    | 2, hk => cases hk; rfl
    | k + 3, hk => simp at hk
  rw [hkk] at H4
  have H5 := St.putSlot (f := slotO) (x := (a, b)) (L0 := [.blk gx 72 C, L1, L2, bigO slotO [p0, p1, p2], T, U, V, X]) H4 3 q rfl (by simpa using hq)
  replace H5 := H5.front 7
  rw [← hC] at H5
  match q, hq with
  | 0, hq => exact ⟨(a, b), p1, p2, ⟨hab, hok.2⟩, H5⟩
  | 1, hq => exact ⟨p0, (a, b), p2, ⟨hok.1, hab, hok.2.2⟩, H5⟩
  | 2, hq => exact ⟨p0, p1, (a, b), ⟨hok.1, hok.2.1, hab⟩, H5⟩
end

/-- what an act leaves -/
def ActPost (gx : Nat) (l lr : Value) (m : Nat) (b : Int) (n0 : Nat) (w0 : World) (e : Ending) (w' : World) : Prop :=
  ∃ (p0 p1 p2 : KA × KA) (r : Option (List RunT)) (At Aw : Option Addr) (n ct cw : Nat) (tps : List Tp), e = .returned (.bool true) ∧ (SlotOk p0 ∧ SlotOk p1 ∧ SlotOk p2) ∧ LW r (m + 2) (b + 200000000) ∧ (∃ rs, r = some rs) ∧ tps.length = n ∧ n ≤ n0 + 1 ∧ (∀ q ∈ tps, q.l.length ≤ 65536) ∧
    St w0 [] w' (lay [.blk gx 72 [p0.1.v, p1.1.v, p2.1.v, p0.2.v, p1.2.v, p2.2.v, l, lr, .slice At n ct, .slice Aw n cw], led l r, ledR lr r, bigO slotO [p0, p1, p2], .row 22 1 (.slice At n ct) n (tps.map Tp.v), .row 22 1 (.slice Aw n cw) n (tps.map Tp.u), bigO Tp.own tps])

end
end Go.Proofs.Ythoopaknldkclaa
