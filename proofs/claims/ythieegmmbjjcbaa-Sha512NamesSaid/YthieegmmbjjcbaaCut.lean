/- CutInto: bytes as pieces. -/
import Derived.Test.YthieegmmbjjcbaaBigO
import Derived.Test.YthieegmmbjjcbaaKitB
import Derived.Test.YthieegmmbjjcbaaKitO
import Derived.Test.YthieegmmbjjcbaaLedR

namespace Go.Proofs.Ythieegmmbjjcbaa
open Go.RowKit
set_option linter.unusedVariables false
set_option maxRecDepth 100000

structure Pc where
  A : Option Addr
  n : Nat
  c : Nat
  l : List UInt8

def Pc.v (p : Pc) : Value := .slice p.A p.n p.c

def Pc.own (p : Pc) : Own := .row 5 1 (.slice p.A p.n p.c) p.n (p.l.map vb)

/-- bytes as pieces, each as long as the next number says -/
def cutB (p : List UInt8) : List UInt8 → List (List UInt8)
  | [] => [p]
  | c :: cs => if p = [] then [p] else p.take (c.toNat % 200) :: cutB (p.drop (c.toNat % 200)) cs

theorem cutB_nil (cs : List UInt8) : cutB [] cs = [[]] := by cases cs <;> rfl

theorem cutB_flat : ∀ (cs p : List UInt8), (cutB p cs).flatten = p := by
  intro cs
  induction cs with
  | nil => intro p; simp [cutB]
  | cons c cs ih =>
    intro p
    unfold cutB
    split
    · rename_i h; subst h; rfl
    · rw [List.flatten_cons, ih, List.take_append_drop]

theorem cutB_len : ∀ (cs p : List UInt8), (cutB p cs).length ≤ cs.length + 1 := by
  intro cs
  induction cs with
  | nil => intro p; simp [cutB]
  | cons c cs ih =>
    intro p
    unfold cutB
    split
    · simp
    · rw [List.length_cons, List.length_cons]
      have := ih (p.drop (c.toNat % 200))
      omega

theorem cutB_step {p cs : List UInt8} {k : Nat} {c : UInt8} (h : cs[k]? = some c) (hp : p ≠ []) : cutB p (cs.drop k) = p.take (c.toNat % 200) :: cutB (p.drop (c.toNat % 200)) (cs.drop (k + 1)) := by
  have hk : k < cs.length := (List.getElem?_eq_some_iff.1 h).1
  have e : cs.drop k = c :: cs.drop (k + 1) := by rw [List.drop_eq_getElem_cons hk, (List.getElem?_eq_some_iff.1 h).2]
  rw [e]
  show (if p = [] then [p] else _) = _
  rw [if_neg hp]

theorem cutB_end {p cs : List UInt8} {k : Nat} (h : k = cs.length ∨ p = []) : cutB p (cs.drop k) = [p] := by
  rcases h with rfl | rfl
  · rw [List.drop_length]; rfl
  · exact cutB_nil _

theorem Rd.drop_if {w : World} {b o n c x : Nat} {l : List UInt8} (h : Rd w 1 (some ⟨b, o, none⟩) n (l.map vb)) (hx : x ≤ n) (hc : n ≤ c) : Rd w 1 (if c = x then some ⟨b, o, none⟩ else some ⟨b, o + x, none⟩) (n - x) ((l.drop x).map vb) := by
  have hl : l.length = n := by have := h.1; simpa using this
  refine ⟨by simp [hl], fun hp => ?_⟩
  obtain ⟨ad, e, h1, h2⟩ := h.2 (by omega)
  injection e with e
  subst e
  refine ⟨⟨b, o + x, none⟩, if_neg (by omega), h1, fun j u hu => ?_⟩
  rw [List.map_drop, List.getElem?_drop] at hu
  have := h2 (x + j) u hu
  rw [Addr.add_mid] at this ⊢
  rw [Nat.add_assoc]
  exact this

set_option maxHeartbeats 4000000 in
theorem cutInto_s (A : Option Addr) (n c : Nat) (p : List UInt8) (B : Option Addr) (m d : Nat) (cs : List UInt8) (w : World) (hA : Rd w 1 A n (p.map vb)) (hB : Rd w 1 B m (cs.map vb)) (hn : n ≤ 100000000000) (hm : m ≤ 1000000000) (hc : n ≤ c) :
    Calls Try.prog 21 #[.slice A n c, .slice B m d] w fun e w' => ∃ V ps, e = .returned V ∧ ps.map Pc.l = cutB p cs ∧ St w [] w' (lay [.row 22 1 V ps.length (ps.map Pc.v), bigO Pc.own ps]) := by
  obtain ⟨i0, hi0, hz0, hz1', hz2'⟩ := info_parts lb_info
  have HM : Hid (cs.length = m) := by unfold Hid; have := hB.1; simpa using this
  have HBB := Lib.hid hB
  have H0 := (St.start_lay w []).nilRow 0 rfl 22 1 |>.push_mk rfl |>.nothing 1 rfl |>.push_mk rfl
  clear hB
  go_enter Try.func21, Try.ntmps21
  go_wp2
  go_loopw [0, 5, 6] (fun s V i wr => ∃ (k : Nat) (A' : Option Addr) (n' c' : Nat) (rest : List UInt8) (ps : List Pc), k ≤ m ∧ i = .int .i64 k ∧ s = .slice A' n' c' ∧ n' ≤ n ∧ n' ≤ c' ∧ Hid (ps.length = k) ∧ Hid (ps.map Pc.l ++ cutB rest (cs.drop k) = cutB p cs) ∧ Hid (Rd w 1 A' n' (rest.map vb)) ∧ St w [] wr (lay [.row 22 1 V k (ps.map Pc.v), bigO Pc.own ps])) (fun _ _ i _ => m - (intOf i).toNat)
  case atStart => exact ⟨0, A, n, c, p, [], Nat.zero_le _, rfl, rfl, Nat.le_refl _, hc, rfl, rfl, hA, H0⟩
  case round =>
    clear H0 hA hc
    obtain ⟨k, A', n', c', rest, ps, hk, rfl, rfl, hn', hc', HK, HP, HR, H⟩ := hrel
    have hl : rest.length = n' := by have := HR.out.1; simpa using this
    have HL := Lib.hid hl
    by_cases hgo : k < m ∧ 0 < n'
    · obtain ⟨hk1, hk2⟩ := hgo
      obtain ⟨b, o, rfl, -, -⟩ := HR.out.flat (by omega) (by omega)
      obtain ⟨cb, hcb⟩ : ∃ v, cs[k]? = some v := ⟨_, List.getElem?_eq_getElem (by rw [HM.out]; exact hk1)⟩
      obtain ⟨pb, ob, rfl, -, hcx⟩ := HBB.out.flat (by omega) (by omega)
      have a0 := (H.below).cell (p := ⟨pb, ob + k, none⟩) (World.block_lt_of_cell? w _ (hcx k (vb cb) (by rw [List.getElem?_map, hcb]; rfl)))
      rw [hcx k (vb cb) (by rw [List.getElem?_map, hcb]; rfl)] at a0
      have hne : rest ≠ [] := fun e => by rw [e] at hl; simp at hl; omega
      have HS := Lib.hid (cutB_step hcb hne)
      clear hcx hcb hne hl
      obtain ⟨q, hq⟩ : ∃ q, cb.toNat % 200 = q := ⟨_, rfl⟩
      rw [hq] at HS
      have HQV : Hid ((cb.toNat : Int) % 200 = (q : Int)) := by unfold Hid; omega
      have hqb : q ≤ 199 := by omega
      have hk3 : (k : Int) < m := by omega
      have hn3 : (0 : Int) < n' := by omega
      have HQ := Lib.hid hq
      clear hq
      have hcb : (cb.toNat : Int) ≤ 255 := by have := cb.toNat_lt; omega
      go_upto_region 6 with (fail)
      rw [HQV.out]
      clear HQV a0
      have HX1 : Hid (rest.take q = rest.take (min q n') ∧ rest.drop q = rest.drop (min q n')) := by
        unfold Hid
        rcases Nat.le_total q n' with h | h
        · rw [Nat.min_eq_left h]; exact ⟨rfl, rfl⟩
        · rw [Nat.min_eq_right h, List.take_of_length_le (by rw [HL.out]; exact h), List.take_of_length_le (by rw [HL.out]; exact Nat.le_refl _), List.drop_eq_nil_of_le (by rw [HL.out]; exact h), List.drop_eq_nil_of_le (by rw [HL.out]; exact Nat.le_refl _)]; exact ⟨rfl, rfl⟩
      have hx : min q n' ≤ n' := Nat.min_le_right _ _
      by_cases hqn : n' < q
      have hq1 : (q : Int) > n' := by omega
      go_upto_region 8 with (fail)
      rw [show ((n' : Nat) : Int) = ((min q n' : Nat) : Int) by rw [Nat.min_eq_right (by omega)]]
      clear hq1 hqn
      rotate_left
      have hq1 : ¬ (q : Int) > n' := by omega
      go_upto_region 8 with (fail)
      rw [show ((q : Nat) : Int) = ((min q n' : Nat) : Int) by rw [Nat.min_eq_left (by omega)]]
      clear hq1 hqn
      rotate_left
      all_goals
        rw [HX1.out.1, HX1.out.2] at HS
        clear HX1 HQ
        generalize min q n' = x at HS hx ⊢
        clear hqb
        have hxi : (x : Int) ≤ c' := by omega
        have hxn : (x : Int) ≤ n' := by omega
        have hrx := HR.out.take hx
        go_wp2_with fail
        refine (copyBytes_any (some ⟨b, o, none⟩) x c' (rest.take x) wr (H.arg0 hrx) (by omega)).mono ?_
        rintro e w2 ⟨v, rfl, ho, hb⟩
        have HLx : Hid ((rest.take x).length = x) := by unfold Hid; rw [List.length_take, HL.out]; omega
        obtain ⟨AV, cV, hV, -⟩ := row_form (H.row 0 rfl)
        subst hV
        replace H := (H.pushRow 2 rfl hb ho).push_mk rfl
        rw [HLx.out] at H
        clear ho hb hrx
        obtain ⟨A9, c9, rfl, -⟩ := row_form (H.row 2 rfl)
        replace H : St w [] w2 (lay [.row 22 1 (.slice AV k cV) k (ps.map Pc.v), bigO Pc.own ps, .row 5 1 (.slice A9 x c9) x ((rest.take x).map vb)]) := H
        go_wp2_with (at_builtin; refine hold_here' ?_)
        refine Lib.hid ?_
        refine absorb_list (H.allocAt 3 rfl w2.heap.size rfl #[.slice A9 x c9] 22 |>.push_mk rfl) ?_
        clear H
        intro w5 H
        generalize w2.heap.size = gN at H ⊢
        refine wpList_append_any _ rfl (.tmp 31) (.tmp 36) _ rfl 0 22 i0 _ 1 24 Try.underlying36 hi0 hz0 hz1' hz2' rfl (by omega) (.slice AV k cV) k (ps.map Pc.v) rfl (H.row 0 rfl) (some ⟨gN, 0, none⟩) 1 1 [.slice A9 x c9] rfl (H.rdBlk 3 rfl 1 1 rfl) (by intro u hu; simp at hu; subst hu; rfl) (by simp only [maxLen]; omega) (by omega) (by omega) ?_
        intro v6 w6 hown6 hg6 hat6
        replace H := ((H.grow 0 rfl hown6 hg6 hat6).upd_mk (by simp)).front 3
        clear hown6 hg6 hat6
        have H7 : St w [] w6 (lay [.row 22 1 v6 (k + 1) (ps.map Pc.v ++ [.slice A9 x c9]), bigO Pc.own ps, Pc.own ⟨A9, x, c9, rest.take x⟩]) := H
        replace H7 := H7.bigPush
        clear H
        have HD := Rd.drop_if HR.out hx hc'
        have HD2 := Lib.hid HD
        clear HD
        go_wp2
        go_roundw
        case rel => exact ⟨k + 1, _, n' - x, c' - x, rest.drop x, ps ++ [⟨A9, x, c9, rest.take x⟩], by omega, by go_num, rfl, by omega, by omega, by unfold Hid; rw [List.length_append, HK.out]; rfl, by unfold Hid; rw [List.map_append, List.append_assoc, ← HP.out, HS.out]; rfl, HD2.out, by rw [List.map_append]; exact H7⟩
        case measure => simp [intOf]; omega
    · have hend : k = m ∨ n' = 0 := by omega
      have HE : Hid (ps.map Pc.l ++ [rest] = cutB p cs) := by
        unfold Hid
        rw [← HP.out, cutB_end]
        rcases hend with h | h
        · exact .inl (by rw [HM.out]; exact h)
        · exact .inr (List.eq_nil_of_length_eq_zero (by rw [HL.out]; exact h))
      have hz : ((k : Int) < m ∧ (n' : Int) = 0) ∨ ¬ (k : Int) < m := by omega
      clear hend hgo
      rcases hz with ⟨hz1, hz2⟩ | hz1
      have hz4 : ¬ (n' : Int) > 0 := by omega
      clear hz2
      rotate_left
      all_goals
        obtain ⟨AV, cV, hV, -⟩ := row_form (H.row 0 rfl)
        subst hV
        go_wp2_with fail
        refine (copyBytes_any A' n' c' rest wr (H.arg0 HR.out) (by omega)).mono ?_
        rintro e w2 ⟨v, rfl, ho, hb⟩
        replace H := (H.pushRow 2 rfl hb ho).push_mk rfl
        rw [HL.out] at H
        clear ho hb
        obtain ⟨A9, c9, rfl, -⟩ := row_form (H.row 2 rfl)
        replace H : St w [] w2 (lay [.row 22 1 (.slice AV k cV) k (ps.map Pc.v), bigO Pc.own ps, .row 5 1 (.slice A9 n' c9) n' (rest.map vb)]) := H
        go_wp2_with (at_builtin; refine hold_here' ?_)
        refine Lib.hid ?_
        refine absorb_list (H.allocAt 3 rfl w2.heap.size rfl #[.slice A9 n' c9] 22 |>.push_mk rfl) ?_
        clear H
        intro w5 H
        generalize w2.heap.size = gN at H ⊢
        refine wpList_append_any _ rfl (.tmp 41) (.tmp 44) _ rfl 0 22 i0 _ 1 24 Try.underlying36 hi0 hz0 hz1' hz2' rfl (by omega) (.slice AV k cV) k (ps.map Pc.v) rfl (H.row 0 rfl) (some ⟨gN, 0, none⟩) 1 1 [.slice A9 n' c9] rfl (H.rdBlk 3 rfl 1 1 rfl) (by intro u hu; simp at hu; subst hu; rfl) (by simp only [maxLen]; omega) (by omega) (by omega) ?_
        intro v6 w6 hown6 hg6 hat6
        replace H := ((H.grow 0 rfl hown6 hg6 hat6).upd_mk (by simp)).front 3
        clear hown6 hg6 hat6
        have H7 : St w [] w6 (lay [.row 22 1 v6 (k + 1) (ps.map Pc.v ++ [.slice A9 n' c9]), bigO Pc.own ps, Pc.own ⟨A9, n', c9, rest⟩]) := H
        replace H7 := H7.bigPush
        clear H
        go_wp2
        go_ret
        refine ⟨_, ps ++ [⟨A9, n', c9, rest⟩], rfl, by rw [List.map_append]; exact HE.out, ?_⟩
        rw [List.length_append, HK.out, List.map_append]
        exact H7

end Go.Proofs.Ythieegmmbjjcbaa
