/- Texts of this claim, merged: Cut, Sh2S, Sh2N, WLay, Sh2W, Sh2D, Lit, Sh2L, Sh2F, Sh2T, Sh2V, Sh2X, Sh2Y, Sh2K. -/
import Derived.Test.YtcnphkmcgefjoaaRows
import Derived.Lib.SlBytesConst
import Derived.Test.YtcnphkmcgefjoaaMgB
set_option linter.unusedVariables false

namespace Go.Proofs.Ytcnphkmcgefjoaa
open Go.RowKit
set_option linter.unusedVariables false
set_option maxRecDepth 100000

structure Pc where
  A : Option Addr
  n : Nat
  c : Nat
  l : List UInt8

def Pc.v (p : Pc) : Value := .slice p.A p.n p.c

def Pc.own (p : Pc) : Own := .row 5 1 (.slice p.A p.n p.c) p.n (p.l.map vb)

/-- bytes as pieces, each as long as the next number says -/
def cutB (p : List UInt8) : List UInt8 → List (List UInt8)
  | [] => [p]
  | c :: cs => if p = [] then [p] else p.take (c.toNat % 200) :: cutB (p.drop (c.toNat % 200)) cs

theorem cutB_nil (cs : List UInt8) : cutB [] cs = [[]] := by cases cs <;> rfl

theorem cutB_flat : ∀ (cs p : List UInt8), (cutB p cs).flatten = p := by
  intro cs
  induction cs with
  | nil => intro p; simp [cutB]
  | cons c cs ih =>
    intro p
    unfold cutB
    split
    · rename_i h; subst h; rfl
    · rw [List.flatten_cons, ih, List.take_append_drop]

theorem cutB_len : ∀ (cs p : List UInt8), (cutB p cs).length ≤ cs.length + 1 := by
  intro cs
  induction cs with
  | nil => intro p; simp [cutB]
  | cons c cs ih =>
    intro p
    unfold cutB
    split
    · simp
    · rw [List.length_cons, List.length_cons]
      have := ih (p.drop (c.toNat % 200))
      omega

theorem cutB_step {p cs : List UInt8} {k : Nat} {c : UInt8} (h : cs[k]? = some c) (hp : p ≠ []) : cutB p (cs.drop k) = p.take (c.toNat % 200) :: cutB (p.drop (c.toNat % 200)) (cs.drop (k + 1)) := by
  have hk : k < cs.length := (List.getElem?_eq_some_iff.1 h).1
  have e : cs.drop k = c :: cs.drop (k + 1) := by rw [List.drop_eq_getElem_cons hk, (List.getElem?_eq_some_iff.1 h).2]
  rw [e]
  show (if p = [] then [p] else _) = _
  rw [if_neg hp]

theorem cutB_end {p cs : List UInt8} {k : Nat} (h : k = cs.length ∨ p = []) : cutB p (cs.drop k) = [p] := by
  rcases h with rfl | rfl
  · rw [List.drop_length]; rfl
  · exact cutB_nil _

theorem Rd.drop_if {w : World} {b o n c x : Nat} {l : List UInt8} (h : Rd w 1 (some ⟨b, o, none⟩) n (l.map vb)) (hx : x ≤ n) (hc : n ≤ c) : Rd w 1 (if c = x then some ⟨b, o, none⟩ else some ⟨b, o + x, none⟩) (n - x) ((l.drop x).map vb) := by
  have hl : l.length = n := by have := h.1; simpa using this
  refine ⟨by simp [hl], fun hp => ?_⟩
  obtain ⟨ad, e, h1, h2⟩ := h.2 (by omega)
  injection e with e
  subst e
  refine ⟨⟨b, o + x, none⟩, if_neg (by omega), h1, fun j u hu => ?_⟩
  rw [List.map_drop, List.getElem?_drop] at hu
  have := h2 (x + j) u hu
  rw [Addr.add_mid] at this ⊢
  rw [Nat.add_assoc]
  exact this

set_option maxHeartbeats 4000000 in
theorem cutInto_s (A : Option Addr) (n c : Nat) (p : List UInt8) (B : Option Addr) (m d : Nat) (cs : List UInt8) (w : World) (hA : Rd w 1 A n (p.map vb)) (hB : Rd w 1 B m (cs.map vb)) (hn : n ≤ 100000000000) (hm : m ≤ 1000000000) (hc : n ≤ c) :
    Calls Try.prog 32 #[.slice A n c, .slice B m d] w fun e w' => ∃ V ps, e = .returned V ∧ ps.map Pc.l = cutB p cs ∧ St w [] w' (lay [.row 22 1 V ps.length (ps.map Pc.v), bigO Pc.own ps]) := by
  obtain ⟨i0, hi0, hz0, hz1', hz2'⟩ := info_parts lb_info
  have HM : Hid (cs.length = m) := by unfold Hid; have := hB.1; simpa using this
  have HBB := Lib.hid hB
  have H0 := (St.start_lay w []).nilRow 0 rfl 22 1 |>.push_mk rfl |>.nothing 1 rfl |>.push_mk rfl
  clear hB
  go_enter Try.func32, Try.ntmps32
  go_wp2
  go_loopw [0, 5, 6] (fun s V i wr => ∃ (k : Nat) (A' : Option Addr) (n' c' : Nat) (rest : List UInt8) (ps : List Pc), k ≤ m ∧ i = .int .i64 k ∧ s = .slice A' n' c' ∧ n' ≤ n ∧ n' ≤ c' ∧ Hid (ps.length = k) ∧ Hid (ps.map Pc.l ++ cutB rest (cs.drop k) = cutB p cs) ∧ Hid (Rd w 1 A' n' (rest.map vb)) ∧ St w [] wr (lay [.row 22 1 V k (ps.map Pc.v), bigO Pc.own ps])) (fun _ _ i _ => m - (intOf i).toNat)
  case atStart => exact ⟨0, A, n, c, p, [], Nat.zero_le _, rfl, rfl, Nat.le_refl _, hc, rfl, rfl, hA, H0⟩
  case round =>
    clear H0 hA hc
    obtain ⟨k, A', n', c', rest, ps, hk, rfl, rfl, hn', hc', HK, HP, HR, H⟩ := hrel
    have hl : rest.length = n' := by have := HR.out.1; simpa using this
    have HL := Lib.hid hl
    by_cases hgo : k < m ∧ 0 < n'
    · obtain ⟨hk1, hk2⟩ := hgo
      obtain ⟨b, o, rfl, -, -⟩ := HR.out.flat (by omega) (by omega)
      obtain ⟨cb, hcb⟩ : ∃ v, cs[k]? = some v := ⟨_, List.getElem?_eq_getElem (by rw [HM.out]; exact hk1)⟩
      obtain ⟨pb, ob, rfl, -, hcx⟩ := HBB.out.flat (by omega) (by omega)
      have a0 := (H.below).cell (p := ⟨pb, ob + k, none⟩) (World.block_lt_of_cell? w _ (hcx k (vb cb) (by rw [List.getElem?_map, hcb]; rfl)))
      rw [hcx k (vb cb) (by rw [List.getElem?_map, hcb]; rfl)] at a0
      have hne : rest ≠ [] := fun e => by rw [e] at hl; simp at hl; omega
      have HS := Lib.hid (cutB_step hcb hne)
      clear hcx hcb hne hl
      obtain ⟨q, hq⟩ : ∃ q, cb.toNat % 200 = q := ⟨_, rfl⟩
      rw [hq] at HS
      have HQV : Hid ((cb.toNat : Int) % 200 = (q : Int)) := by unfold Hid; omega
      have hqb : q ≤ 199 := by omega
      have hk3 : (k : Int) < m := by omega
      have hn3 : (0 : Int) < n' := by omega
      have HQ := Lib.hid hq
      clear hq
      have hcb : (cb.toNat : Int) ≤ 255 := by have := cb.toNat_lt; omega
      go_upto_region 6 with (fail)
      rw [HQV.out]
      clear HQV a0
      have HX1 : Hid (rest.take q = rest.take (min q n') ∧ rest.drop q = rest.drop (min q n')) := by
        unfold Hid
        rcases Nat.le_total q n' with h | h
        · rw [Nat.min_eq_left h]; exact ⟨rfl, rfl⟩
        · rw [Nat.min_eq_right h, List.take_of_length_le (by rw [HL.out]; exact h), List.take_of_length_le (by rw [HL.out]; exact Nat.le_refl _), List.drop_eq_nil_of_le (by rw [HL.out]; exact h), List.drop_eq_nil_of_le (by rw [HL.out]; exact Nat.le_refl _)]; exact ⟨rfl, rfl⟩
      have hx : min q n' ≤ n' := Nat.min_le_right _ _
      by_cases hqn : n' < q
      have hq1 : (q : Int) > n' := by omega
      go_upto_region 8 with (fail)
      rw [show ((n' : Nat) : Int) = ((min q n' : Nat) : Int) by rw [Nat.min_eq_right (by omega)]]
      clear hq1 hqn
      rotate_left
      have hq1 : ¬ (q : Int) > n' := by omega
      go_upto_region 8 with (fail)
      rw [show ((q : Nat) : Int) = ((min q n' : Nat) : Int) by rw [Nat.min_eq_left (by omega)]]
      clear hq1 hqn
      rotate_left
      all_goals
        rw [HX1.out.1, HX1.out.2] at HS
        clear HX1 HQ
        generalize min q n' = x at HS hx ⊢
        clear hqb
        have hxi : (x : Int) ≤ c' := by omega
        have hxn : (x : Int) ≤ n' := by omega
        have hrx := HR.out.take hx
        go_wp2_with fail
        refine (copyBytes_any (some ⟨b, o, none⟩) x c' (rest.take x) wr (H.arg0 hrx) (by omega)).mono ?_
        rintro e w2 ⟨v, rfl, ho, hb⟩
        have HLx : Hid ((rest.take x).length = x) := by unfold Hid; rw [List.length_take, HL.out]; omega
        obtain ⟨AV, cV, hV, -⟩ := row_form (H.row 0 rfl)
        subst hV
        replace H := (H.pushRow 2 rfl hb ho).push_mk rfl
        rw [HLx.out] at H
        clear ho hb hrx
        obtain ⟨A9, c9, rfl, -⟩ := row_form (H.row 2 rfl)
        replace H : St w [] w2 (lay [.row 22 1 (.slice AV k cV) k (ps.map Pc.v), bigO Pc.own ps, .row 5 1 (.slice A9 x c9) x ((rest.take x).map vb)]) := H
        go_wp2_with (at_builtin; refine hold_here' ?_)
        refine Lib.hid ?_
        refine absorb_list (H.allocAt 3 rfl w2.heap.size rfl #[.slice A9 x c9] 22 |>.push_mk rfl) ?_
        clear H
        intro w5 H
        generalize w2.heap.size = gN at H ⊢
        refine wpList_append_any _ rfl (.tmp 31) (.tmp 36) _ rfl 0 22 i0 _ 1 24 Try.underlying36 hi0 hz0 hz1' hz2' rfl (by omega) (.slice AV k cV) k (ps.map Pc.v) rfl (H.row 0 rfl) (some ⟨gN, 0, none⟩) 1 1 [.slice A9 x c9] rfl (H.rdBlk 3 rfl 1 1 rfl) (by intro u hu; simp at hu; subst hu; rfl) (by simp only [maxLen]; omega) (by omega) (by omega) ?_
        intro v6 w6 hown6 hg6 hat6
        replace H := ((H.grow 0 rfl hown6 hg6 hat6).upd_mk (by simp)).front 3
        clear hown6 hg6 hat6
        have H7 : St w [] w6 (lay [.row 22 1 v6 (k + 1) (ps.map Pc.v ++ [.slice A9 x c9]), bigO Pc.own ps, Pc.own ⟨A9, x, c9, rest.take x⟩]) := H
        replace H7 := H7.bigPush
        clear H
        have HD := Rd.drop_if HR.out hx hc'
        have HD2 := Lib.hid HD
        clear HD
        go_wp2
        go_roundw
        case rel => exact ⟨k + 1, _, n' - x, c' - x, rest.drop x, ps ++ [⟨A9, x, c9, rest.take x⟩], by omega, by go_num, rfl, by omega, by omega, by unfold Hid; rw [List.length_append, HK.out]; rfl, by unfold Hid; rw [List.map_append, List.append_assoc, ← HP.out, HS.out]; rfl, HD2.out, by rw [List.map_append]; exact H7⟩
        case measure => simp [intOf]; omega
    · have hend : k = m ∨ n' = 0 := by omega
      have HE : Hid (ps.map Pc.l ++ [rest] = cutB p cs) := by
        unfold Hid
        rw [← HP.out, cutB_end]
        rcases hend with h | h
        · exact .inl (by rw [HM.out]; exact h)
        · exact .inr (List.eq_nil_of_length_eq_zero (by rw [HL.out]; exact h))
      have hz : ((k : Int) < m ∧ (n' : Int) = 0) ∨ ¬ (k : Int) < m := by omega
      clear hend hgo
      rcases hz with ⟨hz1, hz2⟩ | hz1
      have hz4 : ¬ (n' : Int) > 0 := by omega
      clear hz2
      rotate_left
      all_goals
        obtain ⟨AV, cV, hV, -⟩ := row_form (H.row 0 rfl)
        subst hV
        go_wp2_with fail
        refine (copyBytes_any A' n' c' rest wr (H.arg0 HR.out) (by omega)).mono ?_
        rintro e w2 ⟨v, rfl, ho, hb⟩
        replace H := (H.pushRow 2 rfl hb ho).push_mk rfl
        rw [HL.out] at H
        clear ho hb
        obtain ⟨A9, c9, rfl, -⟩ := row_form (H.row 2 rfl)
        replace H : St w [] w2 (lay [.row 22 1 (.slice AV k cV) k (ps.map Pc.v), bigO Pc.own ps, .row 5 1 (.slice A9 n' c9) n' (rest.map vb)]) := H
        go_wp2_with (at_builtin; refine hold_here' ?_)
        refine Lib.hid ?_
        refine absorb_list (H.allocAt 3 rfl w2.heap.size rfl #[.slice A9 n' c9] 22 |>.push_mk rfl) ?_
        clear H
        intro w5 H
        generalize w2.heap.size = gN at H ⊢
        refine wpList_append_any _ rfl (.tmp 41) (.tmp 44) _ rfl 0 22 i0 _ 1 24 Try.underlying36 hi0 hz0 hz1' hz2' rfl (by omega) (.slice AV k cV) k (ps.map Pc.v) rfl (H.row 0 rfl) (some ⟨gN, 0, none⟩) 1 1 [.slice A9 n' c9] rfl (H.rdBlk 3 rfl 1 1 rfl) (by intro u hu; simp at hu; subst hu; rfl) (by simp only [maxLen]; omega) (by omega) (by omega) ?_
        intro v6 w6 hown6 hg6 hat6
        replace H := ((H.grow 0 rfl hown6 hg6 hat6).upd_mk (by simp)).front 3
        clear hown6 hg6 hat6
        have H7 : St w [] w6 (lay [.row 22 1 v6 (k + 1) (ps.map Pc.v ++ [.slice A9 n' c9]), bigO Pc.own ps, Pc.own ⟨A9, n', c9, rest⟩]) := H
        replace H7 := H7.bigPush
        clear H
        go_wp2
        go_ret
        refine ⟨_, ps ++ [⟨A9, n', c9, rest⟩], rfl, by rw [List.map_append]; exact HE.out, ?_⟩
        rw [List.length_append, HK.out, List.map_append]
        exact H7

end Go.Proofs.Ytcnphkmcgefjoaa

namespace Go.Proofs.Ytcnphkmcgefjoaa
open Go.RowKit
set_option linter.unusedVariables false
set_option maxRecDepth 100000

/-- the words behind a message's whole blocks -/
def h2 (m : List UInt8) : List UInt32 := hAll 64 comp2 hBeg2 m
def w2' (m : List UInt8) : List UInt8 := waitOf 64 m
def sh2S (m : List UInt8) : List Value := shVs (h2 m) m.length (w2' m)

theorem h2_length (m : List UInt8) : (h2 m).length = 8 := by
  unfold h2 hAll
  cases m.length / 64 with
  | zero => rfl
  | succ k => exact comp2_length _ _
theorem w2_length (m : List UInt8) : (w2' m).length = 64 := wait_length (by omega) m
theorem h2_stay {m x : List UInt8} (h : m.length % 64 + x.length < 64) : h2 (m ++ x) = h2 m := hAll_stay h
theorem w2_stay {m x : List UInt8} (h : m.length % 64 + x.length < 64) : putAt (w2' m) (m.length % 64) x = w2' (m ++ x) := wait_stay h
theorem h2_next {m x : List UInt8} (h : m.length % 64 + x.length = 64) : h2 (m ++ x) = comp2 (h2 m) (putAt (w2' m) (m.length % 64) x) := by
  unfold h2 w2'
  rw [wait_full (by omega) h]
  exact hAll_next (by omega) h
theorem w2_next {m x : List UInt8} (h : m.length % 64 + x.length = 64) : w2' (m ++ x) = List.replicate 64 0 := wait_next (by omega) h
theorem put_length {b x : List UInt8} {k : Nat} (h : k + x.length ≤ b.length) : (putAt b k x).length = b.length := by
  unfold putAt
  rw [List.length_append, List.length_append, List.length_take, List.length_drop]
  omega

theorem upd_laid2 {L : List Own} {k : Nat} {A : Own} (h : k < L.length) : upd (lay L) k A = lay (L.set k A) := by
  funext i
  by_cases hi : i = k
  · subst hi; simp [upd, lay, List.getElem?_set_self h]
  · simp [upd, lay, hi, List.getElem?_set_ne (Ne.symm hi)]

theorem u8_size' : (Try.prog.info? 5).map (·.size) = some 1 := by kernel_rfl

section
variable {w0 w : World} {F0 : List Nat} {E : Env}

theorem sh2None_no (g : Nat) (w : World) (hc : w.cell? ⟨g, 73, none⟩ = some (.bool true)) :
    Calls Try.prog 44 #[lptr g] w fun e w' => e = .returned (.bool false) ∧ w = w' := by
  unfold lptr
  go_enter Try.func44, Try.ntmps44
  go_wp2
  go_ret
  exact ⟨rfl, rfl⟩

theorem sh2None_nil (w : World) : Calls Try.prog 44 #[.pointer none] w fun e w' => e = .returned (.bool true) ∧ w = w' := by
  go_enter Try.func44, Try.ntmps44
  go_wp2
  go_ret
  exact ⟨rfl, rfl⟩

theorem sh2None_off (g : Nat) (w : World) (hc : w.cell? ⟨g, 73, none⟩ = some (.bool false)) :
    Calls Try.prog 44 #[lptr g] w fun e w' => e = .returned (.bool true) ∧ w = w' := by
  unfold lptr
  go_enter Try.func44, Try.ntmps44
  go_wp2
  go_ret
  exact ⟨rfl, rfl⟩

theorem take_more {α : Type} (p : List α) (t q : Nat) : p.take (t + q) = p.take t ++ (p.drop t).take q := List.take_add

theorem Rd.drop_any {w : World} {A : Option Addr} {n c x : Nat} {l : List UInt8} (b o : Nat) (h : Rd w 1 (some ⟨b, o, none⟩) n (l.map vb)) (hx : x ≤ n) (hc : n ≤ c) : Rd w 1 (if c = x then some ⟨b, o, none⟩ else some ⟨b, o + x, none⟩) (n - x) ((l.drop x).map vb) := Rd.drop_if h hx hc

theorem below_take {α : Type} {l : List α} {n j : Nat} {v : α} (h : (l.take n)[j]? = some v) : l[j]? = some v := by
  rw [List.getElem?_take] at h
  split at h
  · exact h
  · cases h

attribute [local irreducible] comp2 hTo

set_option maxHeartbeats 8000000 in
theorem sh2Put_s (l : Value) (r : Option (List RunT)) (m : Nat) (c : Int) (g : Nat) (M : List UInt8) (A : Option Addr) (n cA : Nat) (p : List UInt8) (H : St w0 F0 w E) (i j : Nat) (hij : i ≠ j) (hi : E i = some (led l r)) (hj : E j = some (.blk g 77 (sh2S M))) (hg : LW r m c) (hm : m ≤ 999999999) (hc : c ≤ 400000000000000000)
    (hR : ∀ w' X Y, St w0 F0 w' (upd (upd E i X) j Y) → Rd w' 1 A n (p.map vb)) (hcap : n ≤ cA) (hn : M.length + n ≤ 281474976710656) :
    Calls Try.prog 39 #[lptr g, l, .slice A n cA] w fun e w' => e = .returned (.tuple #[]) ∧ St w0 F0 w' (upd (upd E i (led l (noteN r 1 64 ((M.length + n) / 64 - M.length / 64)))) j (.blk g 77 (sh2S (M ++ p)))) := by
  have hl : p.length = n := by have h := (hR w _ _ (by rw [upd_id hi, upd_id hj]; exact H)).1; simpa using h
  obtain ⟨F, HF, -, -, hback⟩ := H.frame2 i j hij hi hj
  have HB := Lib.hid hback
  have HR0 : Hid (∀ w' X Y, St w F w' (lay [X, Y]) → Rd w' 1 A n (p.map vb)) := fun w' X Y h => hR w' X Y (hback w' X Y (h.to2 rfl rfl))
  have HL := Lib.hid hl
  replace HF := HF.as2
  clear H hback hi hj hR hl hij
  unfold lptr
  go_enter Try.func39, Try.ntmps39
  go_wp2
  go_loopw [2] (fun s wr => ∃ (t : Nat) (A' : Option Addr) (c' : Nat), t ≤ n ∧ s = .slice A' (n - t) c' ∧ n - t ≤ c' ∧ Hid (∀ w' X Y, St w F w' (lay [X, Y]) → Rd w' 1 A' (n - t) ((p.drop t).map vb)) ∧ St w F wr (lay [led l (noteN r 1 64 ((M.length + t) / 64 - M.length / 64)), .blk g 77 (sh2S (M ++ p.take t))])) (fun s _ => match s with | .slice _ k _ => k | _ => 0)
  case atStart => exact ⟨0, A, cA, Nat.zero_le _, rfl, hcap, HR0.out, by rw [Nat.add_zero, Nat.sub_self, noteN_zero, List.take_zero, List.append_nil]; exact HF⟩
  case round =>
    clear HF HR0
    obtain ⟨t, A', c', ht, rfl, hc', HR, H⟩ := hrel
    by_cases hlt : t < n
    · obtain ⟨b, o, rfl, -, -⟩ := (HR.out wr _ _ H).flat (by omega) (by omega)
      obtain ⟨N, hN⟩ : ∃ N, M ++ p.take t = N := ⟨_, rfl⟩
      have hNl : N.length = M.length + t := by rw [← hN, List.length_append, List.length_take, HL.out]; omega
      rw [hN, ← hNl] at H
      obtain ⟨q, hq⟩ : ∃ q, min (64 - N.length % 64) (n - t) = q := ⟨_, rfl⟩
      obtain ⟨x, hx⟩ : ∃ x, (p.drop t).take q = x := ⟨_, rfl⟩
      have ha : N.length % 64 < 64 := Nat.mod_lt _ (by omega)
      have hxl : x.length = q := by rw [← hx, List.length_take, List.length_drop, HL.out]; omega
      have hq1 : 1 ≤ q := by omega
      have hq2 : q ≤ n - t := by omega
      have hq3 : N.length % 64 + q ≤ 64 := by omega
      have HN2 : Hid (M ++ p.take (t + q) = N ++ x) := by unfold Hid; rw [take_more, ← List.append_assoc, hN, hx]
      have HXX := Lib.hid hx
      have HXL := Lib.hid hxl
      have HNL := Lib.hid hNl
      have HQ := Lib.hid hq
      have hnb : N.length + n ≤ 600000000000000 := by omega
      clear hx hxl hNl hN hq
      have hn8 := shVs_n (n := N.length) (b := w2' N) (h2_length N)
      have c8 := H.cell 1 rfl hn8
      have hgo : ((n - t : Nat) : Int) > 0 := by omega
      have hrm : Int.tmod (N.length : Int) 64 = ((N.length % 64 : Nat) : Int) := by rw [Int.tmod_eq_emod_of_nonneg (by omega)]; omega
      obtain ⟨a, haa⟩ : ∃ a, N.length % 64 = a := ⟨_, rfl⟩
      rw [haa] at hrm hq3 ha
      have HA := Lib.hid haa
      have HRM := Lib.hid hrm
      clear haa hrm
      have ha64 : ¬ 64 = a := by omega
      have ha2 : (a : Int) ≤ 64 := by omega
      go_upto_region 1 with fail
      replace H := H.drew
      have HNE : Hid ((M.length + t) / 64 = N.length / 64) := by unfold Hid; rw [HNL.out]
      rw [← HNE.out] at H
      replace H : St w F _ (lay [led l (noteN r 1 64 ((M.length + t) / 64 - M.length / 64)), .blk g 77 (shVs (h2 N) N.length (w2' N))]) := H
      refine wp_region_held_drew (S := fun w' : World => ∃ Z, St w F w' (lay [led l (noteN r 1 64 ((M.length + t) / 64 - M.length / 64)), .blk g 77 (shVs (h2 N) N.length Z)])) (by kernel_rfl) ?_ (fun hHeld => ?_)
      · exact ⟨_, H⟩
      refine takeV 0 rfl (by intro w h; clear h; go_simp; try with_reducible rfl) (by kernel_rfl) (by kernel_rfl) (by kernel_rfl) (by exact fun _ _ _ h => h) (by rfl) (by assumption) ?_
      try simp only [Act.put, List.setIfInBounds_toArray, List.set_cons_zero, List.set_cons_succ]
      refine takeV 1 rfl (by intro w h; clear h; go_simp; try with_reducible rfl) (by kernel_rfl) (by kernel_rfl) (by kernel_rfl) (by exact fun _ _ _ h => h) (by rfl) (by assumption) ?_
      try simp only [Act.put, List.setIfInBounds_toArray, List.set_cons_zero, List.set_cons_succ]
      refine takeV 2 rfl (by intro w h; clear h; go_simp; try with_reducible rfl) (by kernel_rfl) (by kernel_rfl) (by kernel_rfl) (by exact fun _ _ _ h => h) (by rfl) (by assumption) ?_
      try simp only [Act.put, List.setIfInBounds_toArray, List.set_cons_zero, List.set_cons_succ]
      refine takeV 3 rfl (by intro w h; clear h; go_simp; try with_reducible rfl) (by kernel_rfl) (by kernel_rfl) (by kernel_rfl) (by exact fun _ _ _ h => h) (by rfl) (by assumption) ?_
      try simp only [Act.put, List.setIfInBounds_toArray, List.set_cons_zero, List.set_cons_succ]
      refine takeV 4 rfl (by intro w h; clear h; go_simp; try with_reducible rfl) (by kernel_rfl) (by kernel_rfl) (by kernel_rfl) (by exact fun _ _ _ h => h) (by rfl) (by assumption) ?_
      try simp only [Act.put, List.setIfInBounds_toArray, List.set_cons_zero, List.set_cons_succ]
      refine takeV 5 rfl (by intro w h; clear h; go_simp; try with_reducible rfl) (by kernel_rfl) (by kernel_rfl) (by kernel_rfl) (by exact fun _ _ _ h => h) (by rfl) (by assumption) ?_
      try simp only [Act.put, List.setIfInBounds_toArray, List.set_cons_zero, List.set_cons_succ]
      refine takeV 6 rfl (by intro w h; have hc := (h.elim fun Z h => h.cell 1 rfl (shVs_n (h2_length N))); clear h; go_simp; try with_reducible rfl) (by kernel_rfl) (by kernel_rfl) (by kernel_rfl) (by exact fun _ _ _ h => h) (by rfl) (by assumption) ?_
      try simp only [Act.put, List.setIfInBounds_toArray, List.set_cons_zero, List.set_cons_succ]
      refine takeV 7 rfl (by intro w h; clear h; go_simp; try with_reducible rfl) (by kernel_rfl) (by kernel_rfl) (by kernel_rfl) (by exact fun _ _ _ h => h) (by rfl) (by assumption) ?_
      try simp only [Act.put, List.setIfInBounds_toArray, List.set_cons_zero, List.set_cons_succ]
      rw [HRM.out]
      refine takeV 8 rfl (by intro w h; clear h; go_simp; try with_reducible rfl) (by kernel_rfl) (by kernel_rfl) (by kernel_rfl) (by exact fun _ _ _ h => h) (by rfl) (by assumption) ?_
      try simp only [Act.put, List.setIfInBounds_toArray, List.set_cons_zero, List.set_cons_succ]
      refine takeV 9 rfl (by intro w h; clear h; go_simp; try with_reducible rfl) (by kernel_rfl) (by kernel_rfl) (by kernel_rfl) (by exact fun _ _ _ h => h) (by rfl) (by assumption) ?_
      try simp only [Act.put, List.setIfInBounds_toArray, List.set_cons_zero, List.set_cons_succ]
      refine take_call 10 rfl (by kernel_rfl) (fun K hK => ?_)
      refine step_copy_st rfl (.tmp 18) (.tmp 19) _ _ rfl 5 Try.underlying22 u8_size' _ _ _ _ _ _ (by rfl) (by rfl) H 1 g (9 + a) _ _ (by rfl) (x.map vb) ?_ ?_ ?_ (vb_one _) ?_
      · rw [List.length_map, HXL.out, ← HQ.out, HA.out]; exact Nat.min_comm _ _
      · exact fun _ => ⟨rfl, ⟨b, o, none⟩, rfl, fun j v hv => (((HR.out _ _ _ H).2 (by omega)).elim fun ad h => by obtain ⟨e, -, h3⟩ := h; injection e with e; subst e; exact h3 j v (by rw [← HXX.out, List.map_take] at hv; exact below_take hv))⟩
      · rw [List.length_map, HXL.out, shVs_length (h2_length N) (w2_length N)]; omega
      intro w5 H5
      replace H5 := H5.upd_mk (by simp)
      have hs := shVs_setb (h := h2 N) (n := N.length) (b := w2' N) (h2_length N) (w2_length N) x a (by rw [HXL.out]; omega)
      rw [List.append_assoc] at hs
      replace H5 : St w F w5 (lay [led l (noteN r 1 64 ((M.length + t) / 64 - M.length / 64)), .blk g 77 ((shVs (h2 N) N.length (w2' N)).take (9 + a) ++ (x.map vb ++ (shVs (h2 N) N.length (w2' N)).drop (9 + a + (x.map vb).length)))]) := H5
      rw [hs] at H5
      clear hs
      refine hK.out _ _ ?_ (fun hHeld => ?_)
      · exact ⟨_, H5⟩
      clear hK K
      try simp only [Act.put, List.setIfInBounds_toArray, List.set_cons_zero, List.set_cons_succ]
      rw [show (x.map vb).length = q by rw [List.length_map, HXL.out]]
      refine takeV 11 rfl (by intro w h; clear h; go_simp; try with_reducible rfl) (by kernel_rfl) (by kernel_rfl) (by kernel_rfl) (by exact fun _ _ _ h => h) (by rfl) (by assumption) ?_
      try simp only [Act.put, List.setIfInBounds_toArray, List.set_cons_zero, List.set_cons_succ]
      refine wpAnyH_done (by kernel_rfl) ?_ _
      clear H c8
      have c8 := H5.cell 1 rfl (shVs_n (n := N.length) (b := putAt (w2' N) a x) (h2_length N))
      have f8 := H5.free 1 rfl 8
      clear hHeld
      have H6 := (H5.store 1 rfl (o := 8) (u := .int .i64 ((N.length + q : Nat) : Int))).upd_mk (by simp)
      replace H6 : St w F _ (lay [led l (noteN r 1 64 ((M.length + t) / 64 - M.length / 64)), .blk g 77 ((shVs (h2 N) N.length (putAt (w2' N) a x)).set 8 (.int .i64 ((N.length + q : Nat) : Int)))]) := H6
      rw [shVs_setn (h2_length N)] at H6
      rw [Int.natCast_add] at H6
      clear H5
      go_upto_region 3 with fail
      have c9 := H6.cell 1 rfl (shVs_n (n := N.length + q) (b := putAt (w2' N) a x) (h2_length N))
      rw [Int.natCast_add] at c9
      have hqc : (q : Int) ≤ c' := by omega
      have hqn : (q : Int) ≤ ((n - t : Nat) : Int) := by omega
      have HRR : Hid (∀ w' X Y, St w F w' (lay [X, Y]) → Rd w' 1 (if c' = q then some ⟨b, o, none⟩ else some ⟨b, o + q, none⟩) (n - t - q) (((p.drop t).drop q).map vb)) := fun w' X Y h => Rd.drop_if (HR.out w' X Y h) hq2 hc'
      go_upto_region 4 with fail
      generalize (if c' = q then some (⟨b, o, none⟩ : Addr) else some ⟨b, o + q, none⟩) = A2 at HRR ⊢
      by_cases hf : a + q = 64
      · have h0 : (((N.length : Int) + (q : Int)) % 64 == 0) = true := by
          have e : ((N.length : Int) + (q : Int)) % 64 = 0 := by have := HA.out; omega
          rw [e]; rfl
        have hfx : Hid (N.length % 64 + x.length = 64) := by unfold Hid; rw [HA.out, HXL.out]; exact hf
        have hS : Hid (sh2S (N ++ x) = shVs (comp2 (h2 N) (putAt (w2' N) a x)) (N.length + q) (List.replicate 64 0)) := by
          unfold Hid sh2S
          rw [h2_next hfx.out, w2_next hfx.out, List.length_append, HXL.out, HA.out]
        have hC : Hid ((M.length + t) / 64 - M.length / 64 + 1 = (M.length + (t + q)) / 64 - M.length / 64) := by
          have e := (div_next (B := 64) (n := N.length) (k := q) (by omega) (by rw [HA.out]; exact hf)).1
          rw [HNL.out] at e
          rw [show M.length + (t + q) = M.length + t + q by omega, e]
          have : M.length / 64 ≤ (M.length + t) / 64 := Nat.div_le_div_right (by omega)
          unfold Hid; omega
        have hcb : (M.length + t) / 64 - M.length / 64 ≤ 600000000000000 := by
          have h1 : (M.length + t) / 64 ≤ M.length + t := Nat.div_le_self _ _
          have := HNL.out
          omega
        have HF2 := Lib.hid hf
        clear hf c8 f8
        go_wp2_with fail
        refine (sh2Comp_s l _ (m + 1) (c + (((M.length + t) / 64 - M.length / 64 : Nat) : Int)) g (h2 N) (N.length + q) (putAt (w2' N) a x) H6 0 1 (by omega) rfl rfl (hg.noteN 1 64 _) (by omega) (by omega) (h2_length N) (by rw [put_length (by rw [w2_length, HXL.out]; omega), w2_length])).mono ?_
        rintro e w7 ⟨rfl, H7⟩
        rw [noteN_noteN, hC.out, ← hS.out, ← HN2.out, upd_laid2 (by simp), upd_laid2 (by simp)] at H7
        replace H7 : St w F w7 (lay [led l (noteN r 1 64 ((M.length + (t + q)) / 64 - M.length / 64)), .blk g 77 (sh2S (M ++ p.take (t + q)))]) := H7
        clear h0 H6
        go_wp2
        go_roundw
        case rel => exact ⟨t + q, _, c' - q, by omega, by rw [← Nat.sub_sub], by omega, fun w' X Y h => by rw [← Nat.sub_sub, ← List.drop_drop]; exact HRR.out w' X Y h, H7⟩
        case measure => show n - t - q < n - t; omega
      · have h0 : (((N.length : Int) + (q : Int)) % 64 == 0) = false := by
          have e : ((N.length : Int) + (q : Int)) % 64 = ((a + q : Nat) : Int) := by have := HA.out; omega
          rw [e]; simp; omega
        have hfx : Hid (N.length % 64 + x.length < 64) := by unfold Hid; rw [HA.out, HXL.out]; omega
        have hS : Hid (sh2S (N ++ x) = shVs (h2 N) (N.length + q) (putAt (w2' N) a x)) := by
          unfold Hid sh2S
          rw [h2_stay hfx.out, ← w2_stay hfx.out, List.length_append, HXL.out, HA.out]
        have hC : Hid ((M.length + t) / 64 - M.length / 64 = (M.length + (t + q)) / 64 - M.length / 64) := by
          have e := (div_stay (B := 64) (n := N.length) (k := q) (by rw [HA.out]; omega)).1
          rw [HNL.out] at e
          unfold Hid
          rw [show M.length + (t + q) = M.length + t + q by omega, e]
        rw [← hS.out, hC.out, ← HN2.out] at H6
        clear hf c8 f8
        go_wp2
        go_roundw
        case rel => exact ⟨t + q, _, c' - q, by omega, by rw [← Nat.sub_sub], by omega, fun w' X Y h => by rw [← Nat.sub_sub, ← List.drop_drop]; exact HRR.out w' X Y h, H6⟩
        case measure => show n - t - q < n - t; omega
    · obtain rfl : t = n := by omega
      have hgo : ¬ ((t - t : Nat) : Int) > 0 := by omega
      rw [show p.take t = p from List.take_of_length_le (by rw [HL.out]; exact Nat.le_refl _)] at H
      go_wp2
      go_end0
      exact ⟨rfl, HB.out _ _ _ (H.to2 rfl rfl)⟩
end
end Go.Proofs.Ytcnphkmcgefjoaa

namespace Go.Proofs.Ytcnphkmcgefjoaa
open Go.RowKit
set_option linter.unusedVariables false
set_option maxRecDepth 100000

attribute [local irreducible] comp2 hTo

def shZ : List Value := List.replicate 8 (.int .u32 0) ++ (.int .i64 0 :: (List.replicate 64 (.int .u8 0) ++ [.bool false]))

theorem zero_sh (w : World) : (zeroValue 77).run Try.prog w = .ok (.agg shZ.toArray) w := by kernel_rfl

theorem sh_size : (Try.prog.info? 77).map (·.size) = some 74 := by kernel_rfl

theorem sh2S_nil : sh2S [] = shVs hBeg2 0 (List.replicate 64 0) := by
  unfold sh2S h2 w2'
  rw [hAll_nil, wait_nil]
  rfl

section
variable {w0 w : World} {F0 : List Nat} {E : Env}

set_option maxHeartbeats 1000000 in
theorem sh2New_s (H : St w0 F0 w E) (k : Nat) (hk : E k = none) :
    Calls Try.prog 21 #[] w fun e w' => ∃ g, e = .returned (lptr g) ∧ St w0 F0 w' (upd E k (.blk g 77 (sh2S []))) := by
  go_enter Try.func21, Try.ntmps21
  go_wp2
  go_ret
  have key : ∀ cs : Array Value, cs.toList = sh2S [] → St w0 F0 (w.alloc (.cells cs 77)) (upd E k (.blk w.heap.size 77 (sh2S []))) := fun cs h => by rw [← h]; exact H.alloc k hk cs 77
  exact ⟨w.heap.size, rfl, key _ (by rw [sh2S_nil]; kernel_rfl)⟩

theorem sh2Write_s (l : Value) (r : Option (List RunT)) (m : Nat) (c : Int) (g : Nat) (M : List UInt8) (A : Option Addr) (n cA : Nat) (p : List UInt8) (H : St w0 F0 w E) (i j : Nat) (hij : i ≠ j) (hi : E i = some (led l r)) (hj : E j = some (.blk g 77 (sh2S M))) (hg : LW r m c) (hm : m ≤ 999999999) (hc : c ≤ 400000000000000000)
    (hR : ∀ w' X Y, St w0 F0 w' (upd (upd E i X) j Y) → Rd w' 1 A n (p.map vb)) (hcap : n ≤ cA) (hn : M.length + n ≤ 281474976710656) :
    Calls Try.prog 23 #[lptr g, l, .slice A n cA] w fun e w' => e = .returned (.int .i64 0) ∧ St w0 F0 w' (upd (upd E i (led l (noteN r 1 64 ((M.length + n) / 64 - M.length / 64)))) j (.blk g 77 (sh2S (M ++ p)))) := by
  have c0 := H.cell j hj (shVs_made (h2_length M) (w2_length M))
  have hput := sh2Put_s l r m c g M A n cA p H i j hij hi hj hg hm hc hR hcap hn
  have HP := Lib.hid hput
  clear hput hi hj hij hR H hg
  go_enter Try.func23, Try.ntmps23
  go_wp2_with fail
  refine (sh2None_no g w c0).mono ?_
  rintro e w1 ⟨rfl, rfl⟩
  unfold lptr
  go_wp2_with fail
  refine HP.out.mono ?_
  rintro e w1 ⟨rfl, H1⟩
  go_wp2
  go_ret
  exact ⟨rfl, H1⟩

theorem sh2S_one (M : List UInt8) : ∀ u ∈ sh2S M, u.oneCell' = true := shVs_one
theorem sh2S_length (M : List UInt8) : (sh2S M).length = 74 := shVs_length (h2_length M) (w2_length M)
theorem shZ_one : ∀ u ∈ shZ, u.oneCell' = true := by decide
theorem there_new' (w : World) (cs : Array Value) (T : TypeId) (n : Nat) (h : n = cs.size) : (w.alloc (.cells cs T)).there w.heap.size 0 n := fun j hj => by
  rw [Nat.zero_add, World.cell?_alloc_at _ _ _ _ rfl, World.frozen?_alloc_at _ _ _ _ rfl]
  exact ⟨by rw [Array.getElem?_eq_getElem (by omega)]; rfl, rfl⟩

set_option maxHeartbeats 1000000 in
theorem sh2Wipe_s (l : Value) (r : Option (List RunT)) (m : Nat) (b : Int) (g : Nat) (M : List UInt8) (H : St w0 F0 w E) (i j : Nat) (hij : i ≠ j) (hi : E i = some (led l r)) (hj : E j = some (.blk g 77 (sh2S M))) (hg : LW r m b) (hm : m ≤ 999999999999) (hb : b ≤ 4000000000000000000) :
    Calls Try.prog 34 #[lptr g, l] w fun e w' => e = .returned (.int .i64 0) ∧ St w0 F0 w' (upd (upd E i (led l (noteN r 8 104 1))) j (.blk g 77 shZ)) := by
  have c0 := H.cell j hj (shVs_made (h2_length M) (w2_length M))
  have hz0 := zero_sh
  have HI := Lib.hid hi
  have HJ := Lib.hid hj
  have HG := Lib.hid hg
  have HIJ := Lib.hid hij
  clear hi hj hg hij
  go_enter Try.func34, Try.ntmps34
  go_wp2_with fail
  refine (sh2None_no g w c0).mono ?_
  rintro e w1 ⟨rfl, rfl⟩
  unfold lptr
  go_wp2_with fail
  refine (ledger_note_w m b 8 104 H i HI.out HG.out (by omega) (by omega)).mono ?_
  rintro e w3 ⟨rfl, H3⟩
  have HJ2 : Hid (upd E i (led l (noteN r 8 104 1)) j = some (.blk g 77 (sh2S M))) := by unfold Hid; rw [show upd E i (led l (noteN r 8 104 1)) j = E j from if_neg (Ne.symm HIJ.out)]; exact HJ.out
  clear H
  go_wp2_with (with_reducible refine hold_store 77 (.tmp 12) (.tmp 11) (by rfl) ?_)
  refine Lib.hid ?_
  refine wpList_store_mid rfl 77 (.tmp 12) (.tmp 11) rfl g 0 shZ.toArray rfl rfl (by have h := H3.there j HJ2.out; rw [sh2S_length] at h; exact h) (by rw [sh_size]; rfl) (all_oneCell_toArray shZ_one) ?_
  have H4 := H3.storeAll j HJ2.out (vs := shZ) (by rw [sh2S_length]; rfl)
  show wpList Try.prog _ _ [] _ (w3.setCells g 0 shZ)
  go_wp2
  go_ret
  exact ⟨rfl, H4⟩

end
end Go.Proofs.Ytcnphkmcgefjoaa

namespace Go.Proofs.Ytcnphkmcgefjoaa
open Go.RowKit
set_option maxRecDepth 100000
set_option linter.unusedVariables false

theorem made_bytes {w : World} {base g n : Nat} (h : w.ownsRow base 5 1 (.slice (some ⟨g, 0, none⟩) n n) n (madeCells (Value.int .u8 0).cells (n * 1)).toList) : OwnB w base (.slice (some ⟨g, 0, none⟩) n n) (List.replicate n 0) := by
  unfold OwnB
  rw [List.length_replicate, List.map_replicate]
  rw [show (Value.int .u8 0).cells = #[.int .u8 0] from rfl, toList_madeCells_one, Nat.mul_one] at h
  exact h

set_option maxHeartbeats 400000 in
theorem lay_u32 (x : Nat) (w : World) (hx : x < 2 ^ 32) :
    Calls Try.prog 61 #[.int .u32 (x : Int)] w fun e w' => ∃ v, e = .returned v ∧ OwnB w' w.heap.size v (beL 4 x) ∧ Below w.heap.size w w' := by
  obtain ⟨i0, hi0, hz0, hz1, hz2⟩ := info_parts u8_info
  have HX := Lib.hid hx
  clear hx
  go_enter Try.func61, Try.ntmps61
  go_wp2_with (first | (go_at_call 73; refine (width_u32 _).mono ?_; rintro e w1 ⟨rfl, rfl⟩) | (at_make; refine wpList_make_full _ rfl (.tmp 8) (.tmp 8) 22 rfl w.heap.size 5 i0 (.int .u8 0) 1 Try.underlying22 hi0 hz0 hz1 .i64 .i64 _ _ 4 rfl rfl (by omega) (by omega) (by rw [hz2]; omega) (by simp only [maxLen]; omega) (Nat.le_refl _) ?_; intro w1 ho1 hg1))
  have ho1' := made_bytes ho1
  have hb1 : Below w.heap.size w w1 := (Below.refl _ _).grown hg1 (Nat.le_refl _) (fun _ h => by cases h)
  go_loopw [12] (fun i wr => ∃ k : Nat, k ≤ 4 ∧ i = .int .i64 k ∧ OwnB wr w.heap.size (.slice (some ⟨w.heap.size, 0, none⟩) 4 4) ((beL 4 x).take k ++ List.replicate (4 - k) 0) ∧ Below w.heap.size w wr) (fun i _ => 4 - (intOf i).toNat)
  case atStart => exact ⟨0, Nat.zero_le _, rfl, by simpa using ho1', hb1⟩
  case round =>
    clear ho1 hg1 hb1 ho1'
    obtain ⟨k, hk, rfl, ho, hbw⟩ := hrel
    by_cases hlt : k < 4
    · have hxy := beL_get (x := x) hlt
      rw [show 4 - 1 - k = 3 - k by omega] at hxy
      have hst := ho.stored k (UInt8.ofNat (x / 256 ^ (3 - k)))
      rw [zeros_step hlt hxy, ← byte_eq] at hst
      obtain ⟨z, -, hcz⟩ := ho.cellAt (k := k) (by simp only [List.length_append, List.length_take, beL_length, List.length_replicate]; omega)
      have hfz := ho.frozenAt k
      clear hxy
      go_wp2
      go_roundw
      case rel => exact ⟨k + 1, by omega, by go_num, hst.1, hbw.setCell (Nat.le_refl _) _⟩
      case measure => simp [intOf]; omega
    · have hkr : k = 4 := by omega
      subst hkr
      rw [Nat.sub_self, List.replicate_zero, List.append_nil, List.take_of_length_le (by rw [beL_length]; omega)] at ho
      go_wp2
      go_ret
      exact ⟨_, rfl, ho, hbw⟩

set_option maxHeartbeats 400000 in
theorem lay_u64 (x : Nat) (w : World) (hx : x < 2 ^ 64) :
    Calls Try.prog 46 #[.int .u64 (x : Int)] w fun e w' => ∃ v, e = .returned v ∧ OwnB w' w.heap.size v (beL 8 x) ∧ Below w.heap.size w w' := by
  obtain ⟨i0, hi0, hz0, hz1, hz2⟩ := info_parts u8_info
  have HX := Lib.hid hx
  clear hx
  go_enter Try.func46, Try.ntmps46
  go_wp2_with (first | (go_at_call 62; refine (width_u64 _).mono ?_; rintro e w1 ⟨rfl, rfl⟩) | (at_make; refine wpList_make_full _ rfl (.tmp 8) (.tmp 8) 22 rfl w.heap.size 5 i0 (.int .u8 0) 1 Try.underlying22 hi0 hz0 hz1 .i64 .i64 _ _ 8 rfl rfl (by omega) (by omega) (by rw [hz2]; omega) (by simp only [maxLen]; omega) (Nat.le_refl _) ?_; intro w1 ho1 hg1))
  have ho1' := made_bytes ho1
  have hb1 : Below w.heap.size w w1 := (Below.refl _ _).grown hg1 (Nat.le_refl _) (fun _ h => by cases h)
  go_loopw [12] (fun i wr => ∃ k : Nat, k ≤ 8 ∧ i = .int .i64 k ∧ OwnB wr w.heap.size (.slice (some ⟨w.heap.size, 0, none⟩) 8 8) ((beL 8 x).take k ++ List.replicate (8 - k) 0) ∧ Below w.heap.size w wr) (fun i _ => 8 - (intOf i).toNat)
  case atStart => exact ⟨0, Nat.zero_le _, rfl, by simpa using ho1', hb1⟩
  case round =>
    clear ho1 hg1 hb1 ho1'
    obtain ⟨k, hk, rfl, ho, hbw⟩ := hrel
    by_cases hlt : k < 8
    · have hxy := beL_get (x := x) hlt
      rw [show 8 - 1 - k = 7 - k by omega] at hxy
      have hst := ho.stored k (UInt8.ofNat (x / 256 ^ (7 - k)))
      rw [zeros_step hlt hxy, ← byte_eq] at hst
      obtain ⟨z, -, hcz⟩ := ho.cellAt (k := k) (by simp only [List.length_append, List.length_take, beL_length, List.length_replicate]; omega)
      have hfz := ho.frozenAt k
      clear hxy
      go_wp2
      go_roundw
      case rel => exact ⟨k + 1, by omega, by go_num, hst.1, hbw.setCell (Nat.le_refl _) _⟩
      case measure => simp [intOf]; omega
    · have hkr : k = 8 := by omega
      subst hkr
      rw [Nat.sub_self, List.replicate_zero, List.append_nil, List.take_of_length_le (by rw [beL_length]; omega)] at ho
      go_wp2
      go_ret
      exact ⟨_, rfl, ho, hbw⟩

end Go.Proofs.Ytcnphkmcgefjoaa

namespace Go.Proofs.Ytcnphkmcgefjoaa
open Go.RowKit
set_option linter.unusedVariables false
set_option maxRecDepth 100000

attribute [local irreducible] comp2 hTo

def laid4 (l : List UInt32) (k : Nat) : List UInt8 := ((l.take k).map fun x => beL 4 x.toNat).flatten

theorem laid4_succ {l : List UInt32} {k : Nat} (hk : k < l.length) : laid4 l (k + 1) = laid4 l k ++ beL 4 (at32 l k).toNat := by
  unfold laid4
  rw [List.take_add_one, at32_some hk]
  simp

theorem laid4_length {l : List UInt32} {k : Nat} (hk : k ≤ l.length) : (laid4 l k).length = 4 * k := by
  induction k with
  | zero => rfl
  | succ k ih => rw [laid4_succ (by omega), List.length_append, ih (by omega), beL_length]; omega

theorem h8_ix (h : List UInt32) (hh : h.length = 8) (k : Nat) (hk : k < 8) (w : World) : (Instr.index 40 (.agg (h.map u32v).toArray) (.int .i64 (k : Int))).run Try.prog w = .ok (.int .u32 ((at32 h k).toNat : Int)) w :=
  run_index_agg (P := Try.prog) 40 39 8 (h.map u32v).toArray k _ Try.underlying40 h8_size u32_notAgg hk (by have := u32_get (l := h) (k := k) (by omega); simpa using this) w

theorem St.newRow' {w w' : World} {E : Env} {e : TypeId} {size n : Nat} {v : Value} {xs : List Value} (H : St w [] w' E) (k : Nat) (hk : E k = some (.row e size v n xs)) : w'.ownsRow w.heap.size e size v n xs := by
  obtain ⟨F, ⟨h, eF⟩, hF, -⟩ := H.change k hk
  exact ownsRow_base h fun g hg => by have := hF g (by rw [eF]; exact hg); simpa using this

theorem h8size : (Try.prog.info? 40).map (·.size) = some 8 := by kernel_rfl

section
variable {w0 w : World} {F0 : List Nat} {E : Env}

theorem sh_front {g : Nat} {T : TypeId} {h : List UInt32} {n : Nat} {b : List UInt8} (H : St w0 F0 w E) (j : Nat) (hj : E j = some (.blk g T (shVs h n b))) : w.rangeAt g 0 (h.map u32v) := fun k v hv => by
  rw [Nat.zero_add]
  refine H.cell j hj ?_
  unfold shVs
  rw [List.getElem?_append_left (List.getElem?_eq_some_iff.1 hv).1]
  exact hv

set_option maxHeartbeats 2000000 in
theorem sh2Words_s (g : Nat) (h : List UInt32) (n : Nat) (b : List UInt8) (H : St w0 F0 w E) (j : Nat) (hj : E j = some (.blk g 77 (shVs h n b))) (hh : h.length = 8) :
    Calls Try.prog 45 #[lptr g] w fun e w' => ∃ v, e = .returned v ∧ OwnB w' w.heap.size v (laid4 h 8) ∧ Below w.heap.size w w' := by
  obtain ⟨i0, hi0, hz0, hz1, hz2⟩ := info_parts u8_info
  have HI := Lib.hid (⟨hi0, hz0, hz1, hz2⟩ : _ ∧ _ ∧ _ ∧ _)
  clear hi0 hz0 hz1 hz2
  have hr := sh_front H j hj
  have HH := Lib.hid hh
  clear H hj hh
  have H := (St.start_lay w []).nilRow 0 rfl 5 1 |>.push_mk rfl
  unfold lptr
  go_enter Try.func45, Try.ntmps45
  go_wp2_with (refine wpList_load_mid rfl 40 (.tmp 8) rfl g 0 rfl (h.map u32v) _ hr Try.underlying40 rfl (by rw [h8size, List.length_map, HH.out]) ?_)
  go_loopw [3, 10] (fun v i wr => ∃ k : Nat, k ≤ 8 ∧ i = .int .i64 k ∧ St w [] wr (lay [.row 5 1 v (4 * k) ((laid4 h k).map vb)])) (fun _ i _ => 8 - (intOf i).toNat)
  case atStart => exact ⟨0, by omega, rfl, H⟩
  case round =>
    clear H hr
    obtain ⟨k, hk, rfl, H⟩ := hrel
    obtain ⟨AV, cV, rfl, -, -⟩ := row_form (H.row 0 rfl)
    by_cases hlt : k < 8
    · have hk1 : (k : Int) < 8 := by omega
      have hi := h8_ix h HH.out k hlt
      have HS := Lib.hid (laid4_succ (l := h) (k := k) (by rw [HH.out]; exact hlt))
      generalize at32 h k = x at hi HS
      go_wp2_with fail
      refine (lay_u32 x.toNat wr x.toNat_lt).mono ?_
      rintro e w2 ⟨v2, rfl, ho, hb⟩
      replace H := (H.pushRow 1 rfl hb ho).push_mk rfl
      clear ho hb
      rw [beL_length] at H
      obtain ⟨A2, c2, rfl, -, -⟩ := row_form (H.row 1 rfl)
      go_wp2_with (at_builtin; refine hold_here' ?_)
      refine Lib.hid ?_
      obtain ⟨hi0, hz0, hz1, hz2⟩ := HI.out
      refine wpList_append_any _ rfl (.tmp 13) (.tmp 15) _ rfl 0 5 i0 _ 1 1 Try.underlying22 hi0 hz0 hz1 hz2 rfl (by omega) (.slice AV (4 * k) cV) (4 * k) ((laid4 h k).map vb) rfl (H.row 0 rfl) A2 4 c2 ((beL 4 x.toNat).map vb) rfl (H.rd 1 rfl) (vb_one _) (by simp only [maxLen]; omega) (by omega) (by omega) ?_
      intro v6 w6 hown6 hg6 hat6
      replace H := ((H.grow 0 rfl hown6 hg6 hat6).upd_mk (by simp)).front 1
      clear hown6 hg6 hat6 hi0 hz0 hz1 hz2
      have H7 : St w [] w6 (lay [.row 5 1 v6 (4 * (k + 1)) ((laid4 h (k + 1)).map vb)]) := by rw [HS.out, List.map_append]; exact H
      clear H
      go_wp2
      go_roundw
      case rel => exact ⟨k + 1, by omega, by go_num, H7⟩
      case measure => simp [intOf]; omega
    · obtain rfl : k = 8 := by omega
      go_wp2
      go_ret
      exact ⟨_, rfl, (by unfold OwnB; rw [laid4_length (by rw [HH.out]; omega)]; exact H.newRow' 0 rfl), H.below⟩
end
end Go.Proofs.Ytcnphkmcgefjoaa

namespace Go.Proofs.Ytcnphkmcgefjoaa
open Go.RowKit
set_option linter.unusedVariables false
set_option maxRecDepth 100000

theorem St.two_more2 {w0 w w' : World} {F0 F : List Nat} {E : Env} {A B R A0 B0 : Own} {i j k : Nat} (hij : i ≠ j) (hi : E i = some A0) (hj : E j = some B0) (hk : E k = none)
    (hback : ∀ (w' : World) (A' B' : Own), St w F w' (two A' B') → St w0 F0 w' (upd (upd E i A') j B')) (H : St w F w' (lay [A, B, R])) : St w0 F0 w' (upd (upd (upd E i A) j B) k R) := by
  have hki : k ≠ i := fun e => by rw [e, hi] at hk; cases hk
  have hkj : k ≠ j := fun e => by rw [e, hj] at hk; cases hk
  have H1 := H.join 0 2 (by omega) rfl rfl
  have H2 : St w F w' (two (.sep A R) B) := H1.sub fun n C hC => by
    simp only [two, upd, Env.nil] at hC
    by_cases h1 : n = 1
    · subst h1; rw [if_pos rfl] at hC; rw [← hC]; rfl
    · rw [if_neg h1] at hC
      by_cases h0 : n = 0
      · subst h0; rw [if_pos rfl] at hC; rw [← hC]; rfl
      · rw [if_neg h0] at hC; cases hC
  have H3 := hback _ _ _ H2
  have H4 := H3.part (A := A) (B := R) i k (Ne.symm hki) (by simp [upd, hij]) (by simp [upd, hki, hkj, hk])
  refine H4.env fun n => ?_
  simp only [upd]
  by_cases h1 : n = k
  · simp [h1]
  · by_cases h2 : n = j
    · subst h2; simp [h1, Ne.symm hij]
    · by_cases h3 : n = i <;> simp [h1, h2, h3, hij]

theorem made0' {w : World} {base g n : Nat} (h : w.ownsRow base 5 1 (.slice (some ⟨g, 0, none⟩) n n) n (madeCells (Value.int .u8 0).cells (n * 1)).toList) : w.ownsRow base 5 1 (.slice (some ⟨g, 0, none⟩) n n) n ((List.replicate n (0 : UInt8)).map vb) := by
  rw [show (Value.int .u8 0).cells = #[.int .u8 0] from rfl, toList_madeCells_one, Nat.mul_one] at h
  rw [List.map_replicate]
  exact h

section
variable {w0 w w' : World} {F0 : List Nat} {E : Env}

theorem St.rowFull2 {g n : Nat} {e : TypeId} {xs : List Value} (H : St w0 F0 w E) (k : Nat) (hk : E k = some (.row e 1 (.slice (some ⟨g, 0, none⟩) n n) n xs)) : St w0 F0 w (upd E k (.blk g e xs)) := by
  obtain ⟨F, ⟨h, hF⟩, -, -, hc⟩ := H.change k hk
  refine hc w _ [g] ⟨?_, rfl⟩ (Low.refl _ _) (by intro g' hg'; left; rw [hF]; simpa [Value.ownBlock] using hg')
  rcases h.2 with ⟨hv, -⟩ | ⟨g', cap, cur, hv, -, hg, hn, -, hs, hx⟩
  · cases hv
  · injection hv with h1 h2 h3
    injection h1 with h1
    injection h1 with h1
    subst h1 h3
    rw [hg]
    have : cur.toList = xs := by rw [← hx, List.take_of_length_le (by simp; omega)]
    rw [← this]

theorem St.blkRow2 {g n : Nat} {e : TypeId} {xs : List Value} (H : St w0 F0 w E) (k : Nat) (hk : E k = some (.blk g e xs)) (hx : xs.length = n) (hn : n ≤ maxLen) : St w0 F0 w (upd E k (.row e 1 (.slice (some ⟨g, 0, none⟩) n n) n xs)) := by
  obtain ⟨F, ⟨h, hF⟩, -, -, hc⟩ := H.change k hk
  subst hF
  subst hx
  refine hc w _ [g] ⟨⟨(Nat.mul_one _).symm, .inr ⟨g, xs.length, xs.toArray, rfl, Nat.zero_le _, h, Nat.le_refl _, hn, by rw [Nat.mul_one]; exact List.size_toArray, by rw [Nat.mul_one]; exact List.take_length⟩⟩, by simp [Value.ownBlock]⟩ (Low.refl _ _) (by simp)

end

theorem St.permS {w0 w : World} {F0 : List Nat} {L L' : List Own} (H : St w0 F0 w (lay L)) (p : List Nat) (n : Nat) (hn : L'.length = n) (hp : ∀ i, i < n → ∀ j, j < n → p.getD i 0 = p.getD j 0 → i = j) (h : ∀ i, i < n → L[p.getD i 0]? = L'[i]?) : St w0 F0 w (lay L') := by
  obtain ⟨lo, Fs, h1, h2⟩ := H
  have hl : ∀ i A, lay L' i = some A → i < n ∧ lay L (p.getD i 0) = some A := by
    intro i A hA
    have hi : i < n := by rw [← hn]; exact (List.getElem?_eq_some_iff.1 hA).1
    exact ⟨hi, (h i hi).trans hA⟩
  exact ⟨lo, fun k => Fs (p.getD k 0), fun i A hA => h1 _ A (hl i A hA).2, fun i j A B hij hA hB => h2 _ _ A B (fun e => hij (hp i (hl i A hA).1 j (hl j B hB).1 e)) (hl i A hA).2 (hl j B hB).2⟩

attribute [local irreducible] comp2 hTo

def padZ (n : Nat) : Nat := (119 - n % 64) % 64
def padM (n : Nat) : List UInt8 := (128 :: List.replicate (padZ n) 0) ++ beL 8 (8 * n)
theorem padM_length (n : Nat) : (padM n).length = 9 + padZ n := by
  unfold padM
  rw [List.length_append, List.length_cons, List.length_replicate, beL_length]; omega
def dig2 (M : List UInt8) : List UInt8 := laid4 (h2 (M ++ padM M.length)) 8
theorem dig2_length (M : List UInt8) : (dig2 M).length = 32 := laid4_length (by rw [h2_length]; omega)
def lastN (n : Nat) : Nat := (n + (9 + padZ n)) / 64 - n / 64
theorem lastN_le (n : Nat) : lastN n ≤ 2 := by
  unfold lastN padZ
  omega

section
variable {w0 w : World} {F0 : List Nat} {E : Env}

set_option maxHeartbeats 8000000 in
theorem sh2Sum_s (l : Value) (r : Option (List RunT)) (m : Nat) (c : Int) (g : Nat) (M : List UInt8) (H : St w0 F0 w E) (i j k0 : Nat) (hij : i ≠ j) (hi : E i = some (led l r)) (hj : E j = some (.blk g 77 (sh2S M))) (hk : E k0 = none) (hg : LW r m c) (hm : m ≤ 999999999) (hc : c ≤ 400000000000000000) (hn : M.length ≤ 281474976710000) :
    Calls Try.prog 25 #[lptr g, l] w fun e w' => ∃ v, e = .returned (.tuple #[v, .int .i64 0]) ∧ St w0 F0 w' (upd (upd (upd E i (led l (noteN r 1 64 (lastN M.length)))) j (.blk g 77 (sh2S M))) k0 (.row 5 1 v 32 ((dig2 M).map vb))) := by
  obtain ⟨i0, hi0, hz0, hz1, hz2⟩ := info_parts u8_info
  have HI0 := Lib.hid (⟨hi0, hz0, hz1, hz2⟩ : _ ∧ _ ∧ _ ∧ _)
  clear hi0 hz0 hz1 hz2
  obtain ⟨F, HF, -, -, hback⟩ := H.frame2 i j hij hi hj
  have HB := Lib.hid hback
  have HKK := Lib.hid hk
  have HIJ := Lib.hid hij
  have HI := Lib.hid hi
  have HJ := Lib.hid hj
  have HG := Lib.hid hg
  replace HF := HF.as2
  clear H hback hi hj hk hij hg
  have hzz := zero_sh
  have c0 := HF.cell 1 rfl (shVs_made (h2_length M) (w2_length M))
  have c8 := HF.cell 1 rfl (shVs_n (n := M.length) (b := w2' M) (h2_length M))
  go_enter Try.func25, Try.ntmps25
  go_wp2_with fail
  refine (sh2None_no g w c0).mono ?_
  rintro e w1 ⟨rfl, rfl⟩
  unfold lptr
  go_wp2_with (first | (with_reducible refine hold_store 77 (.tmp 6) (.tmp 13) (by rfl) ?_) | (refine wpList_load_row rfl 77 (.tmp 12) rfl g rfl _ _ _ _ (HF.blk 1 rfl) Try.underlying77 rfl (by rw [sh_size]; simp [sh2S_length]) ?_))
  refine Lib.hid ?_
  refine absorb_list (HF.allocAt 2 rfl w.heap.size rfl shZ.toArray 77 |>.push_mk rfl) ?_
  clear HF c0 c8
  intro w3 H
  generalize w.heap.size = gt at H ⊢
  refine wpList_store_mid rfl 77 (.tmp 6) (.tmp 13) rfl gt 0 (sh2S M).toArray rfl rfl (by have ht := H.there 2 rfl; rw [List.size_toArray, sh2S_length]; exact ht) (by rw [sh_size, List.size_toArray, sh2S_length]) (all_oneCell_toArray (sh2S_one M)) ?_
  replace H := (H.storeAll 2 rfl (vs := sh2S M) (by rw [sh2S_length]; rfl)).upd_mk (by simp)
  replace H : St w F (w3.setCells gt 0 (sh2S M)) (lay [led l r, .blk g 77 (sh2S M), .blk gt 77 (sh2S M)]) := H
  show wpList Try.prog _ _ [] _ (w3.setCells gt 0 (sh2S M))
  generalize w3.setCells gt 0 (sh2S M) = w4 at H ⊢
  have c8 := H.cell 1 rfl (shVs_n (n := M.length) (b := w2' M) (h2_length M))
  go_wp2_with fail
  rw [show (8 * (M.length : Int)) = ((8 * M.length : Nat) : Int) by omega]
  refine (lay_u64 (8 * M.length) w4 (by omega)).mono ?_
  rintro e w5 ⟨v3, rfl, ho, hb⟩
  replace H := (H.pushRow 3 rfl hb ho).push_mk rfl
  rw [beL_length] at H
  clear ho hb c8
  obtain ⟨A3, c3, rfl, -, -⟩ := row_form (H.row 3 rfl)
  have c8 := H.cell 1 rfl (shVs_n (n := M.length) (b := w2' M) (h2_length M))
  go_wp2_with (at_make; refine hold_here' ?_)
  refine Lib.hid ?_
  obtain ⟨hi0, hz0, hz1, hz2⟩ := HI0.out
  obtain ⟨Z, hZ⟩ : ∃ Z, padZ M.length = Z := ⟨_, rfl⟩
  have hZb : Z ≤ 63 := by rw [← hZ]; unfold padZ; omega
  rw [show (1 + (119 - (M.length : Int)) % 64) = ((1 + Z : Nat) : Int) by rw [← hZ]; unfold padZ; omega]
  have HZ := Lib.hid hZ
  clear hZ
  refine wpList_make_full _ rfl (.tmp 28) (.tmp 28) 22 rfl w5.heap.size 5 i0 (.int .u8 0) 1 Try.underlying22 hi0 hz0 hz1 .i64 .i64 _ _ (1 + Z) rfl rfl rfl rfl (by rw [hz2]; omega) (by simp only [maxLen]; omega) (Nat.le_refl _) ?_
  intro w6 ho6 hg6
  have hb6 : Below w5.heap.size w5 w6 := (Below.refl _ _).grown hg6 (Nat.le_refl _) (fun _ h => by cases h)
  replace H := (((H.pushRow 4 rfl hb6 (made0' ho6)).push_mk rfl).rowFull2 4 rfl).upd_mk (by simp)
  clear ho6 hg6 hb6 c8
  generalize w5.heap.size = gp at H ⊢
  replace H : St w F w6 (lay [led l r, .blk g 77 (sh2S M), .blk gt 77 (sh2S M), .row 5 1 (.slice A3 8 c3) 8 ((beL 8 (8 * M.length)).map vb), .blk gp 5 ((List.replicate (1 + Z) (0 : UInt8)).map vb)]) := H
  clear hi0 hz0 hz1 hz2
  have z0 := H.cell 4 rfl (o := 0) (u := .int .u8 0) (by rw [List.getElem?_map, List.getElem?_replicate, if_pos (by omega)]; rfl)
  have f0 := H.free 4 rfl 0
  have hz1 : (0 : Int) < 1 + (Z : Int) := by omega
  have hz2 : 0 < 1 + Z := by omega
  have H2 := (H.store 4 rfl (o := 0) (u := .int .u8 128)).upd_mk (by simp)
  have hset : ((List.replicate (1 + Z) (0 : UInt8)).map vb).set 0 (.int .u8 128) = ((128 :: List.replicate Z 0 : List UInt8)).map vb := by
    rw [Nat.add_comm, List.replicate_succ, List.map_cons, List.set_cons_zero]; rfl
  replace H2 : St w F (w6.setCell ⟨gp, 0, none⟩ (.int .u8 128)) (lay [led l r, .blk g 77 (sh2S M), .blk gt 77 (sh2S M), .row 5 1 (.slice A3 8 c3) 8 ((beL 8 (8 * M.length)).map vb), .blk gp 5 (((List.replicate (1 + Z) (0 : UInt8)).map vb).set 0 (.int .u8 128))]) := H2
  rw [hset] at H2
  replace H2 := (H2.blkRow2 4 rfl (n := 1 + Z) (by rw [List.length_map, List.length_cons, List.length_replicate, Nat.add_comm]) (by simp only [maxLen]; omega)).upd_mk (by simp)
  clear H hset
  go_wp2_with (at_builtin; refine hold_here' ?_)
  refine Lib.hid ?_
  obtain ⟨hi0, hz0, hz1', hz2'⟩ := HI0.out
  refine wpList_append_any _ rfl (.tmp 33) (.tmp 34) _ rfl 0 5 i0 _ 1 1 Try.underlying22 hi0 hz0 hz1' hz2' rfl (by omega) (.slice (some ⟨gp, 0, none⟩) (1 + Z) (1 + Z)) (1 + Z) (((128 :: List.replicate Z 0 : List UInt8)).map vb) rfl (H2.row 4 rfl) A3 8 c3 ((beL 8 (8 * M.length)).map vb) rfl (H2.rd 3 rfl) (vb_one _) (by simp only [maxLen]; omega) (by omega) (by omega) ?_
  intro v7 w7 hown6 hg6 hat6
  have H := (H2.grow 4 rfl hown6 hg6 hat6).upd_mk (by simp)
  clear hown6 hg6 hat6 hi0 hz0 hz1' hz2' H2 z0 f0
  have hpm : (128 :: List.replicate Z 0 : List UInt8) ++ beL 8 (8 * M.length) = padM M.length := by unfold padM; rw [HZ.out]
  rw [← List.map_append, hpm] at H
  obtain ⟨A4, c4, rfl, hc4, -⟩ := row_form (H.row 4 rfl)
  replace H : St w F w7 (lay [led l r, .blk g 77 (sh2S M), .blk gt 77 (sh2S M), .row 5 1 (.slice A3 8 c3) 8 ((beL 8 (8 * M.length)).map vb), .row 5 1 (.slice A4 (1 + Z + 8) c4) (1 + Z + 8) ((padM M.length).map vb)]) := H
  have hln : lastN M.length = (M.length + (1 + Z + 8)) / 64 - M.length / 64 := by unfold lastN; rw [HZ.out, show 9 + Z = 1 + Z + 8 by omega]
  have HLN := Lib.hid hln
  clear hpm hln
  go_wp2_with fail
  refine (sh2Put_s l r m c gt M A4 (1 + Z + 8) c4 (padM M.length) H 0 2 (by omega) rfl rfl HG.out hm hc (fun w' X Y h => h.rd 4 rfl) hc4 (by omega)).mono ?_
  rintro e w8 ⟨rfl, H8⟩
  rw [← HLN.out, upd_laid2 (by simp), upd_laid2 (by simp)] at H8
  clear H
  replace H8 : St w F w8 (lay [led l (noteN r 1 64 (lastN M.length)), .blk g 77 (sh2S M), .blk gt 77 (sh2S (M ++ padM M.length)), .row 5 1 (.slice A3 8 c3) 8 ((beL 8 (8 * M.length)).map vb), .row 5 1 (.slice A4 (1 + Z + 8) c4) (1 + Z + 8) ((padM M.length).map vb)]) := H8
  go_wp2_with fail
  refine (sh2Words_s gt (h2 (M ++ padM M.length)) _ _ H8 2 rfl (h2_length _)).mono ?_
  rintro e w9 ⟨v9, rfl, ho, hb⟩
  unfold OwnB at ho
  rw [laid4_length (by rw [h2_length]; omega)] at ho
  have H9 := (H8.pushRow 5 rfl hb ho).push_mk rfl
  clear ho hb H8
  have H10 : St w F w9 (lay [led l (noteN r 1 64 (lastN M.length)), .blk g 77 (sh2S M), .row 5 1 v9 32 ((dig2 M).map vb)]) := H9.permS [0, 1, 5] 3 rfl (by decide) (fun i hi => by
    match i, hi with
    | 0, _ => rfl
    | 1, _ => rfl
    | 2, _ => rfl)
  clear H9
  go_wp2
  go_ret2
  exact ⟨_, rfl, St.two_more2 HIJ.out HI.out HJ.out HKK.out HB.out H10⟩
end
end Go.Proofs.Ytcnphkmcgefjoaa

namespace Go.Proofs.Ytcnphkmcgefjoaa
open Go.RowKit
set_option linter.unusedVariables false

def Own.lit (g : Nat) (T : TypeId) (cs : List Value) (m : Nat × Nat) : Own where
  holds w F := w.heap[g]? = some (.cells cs.toArray T m) ∧ F = [g]
  loc := fun ⟨h, e⟩ k => ⟨by rw [k g (by simp [e])]; exact h, e⟩
  old := fun ⟨h, e⟩ k hk => by rw [e] at hk; simp at hk; subst hk; exact lt_of_heap h

section
variable {w0 w w' : World} {F0 : List Nat} {E : Env}

theorem St.litAt (H : St w0 F0 w E) (k : Nat) (hk : E k = none) (b : Nat) (hb : b = w.heap.size) (cs : Array Value) (T : TypeId) (m : Nat × Nat) : St w0 F0 (w.alloc (.cells cs T m)) (upd E k (.lit b T cs.toList m)) := by
  subst hb
  exact H.push k hk ((Below.refl _ _).alloc (Nat.le_refl _) _) (F := [w.heap.size]) ⟨by rw [heap_alloc_new], rfl⟩ (by simp)

theorem St.rdLit {g : Nat} {T : TypeId} {cs : List Value} {m : Nat × Nat} (H : St w0 F0 w E) (k : Nat) (hk : E k = some (.lit g T cs m)) (size n : Nat) (hl : cs.length = n * size) : Rd w size (some ⟨g, 0, none⟩) n cs := by
  obtain ⟨F, ⟨h, -⟩, -⟩ := H.change k hk
  refine ⟨hl, fun _ => ⟨_, rfl, lt_of_heap h, fun j u hu => ?_⟩⟩
  rw [Addr.add_mid, Nat.zero_add, cell_of_row w g j _ _ _ h]
  simpa using hu
end
end Go.Proofs.Ytcnphkmcgefjoaa

namespace Go.Proofs.Ytcnphkmcgefjoaa
open Go.RowKit
set_option linter.unusedVariables false
set_option maxRecDepth 100000

theorem St.one_more2 {w0 w w' : World} {F0 F : List Nat} {E : Env} {A R A0 : Own} {i k : Nat} (hi : E i = some A0) (hk : E k = none)
    (hback : ∀ (w' : World) (A' : Own), St w F w' (one A') → St w0 F0 w' (upd E i A')) (H : St w F w' (lay [A, R])) : St w0 F0 w' (upd (upd E i A) k R) := by
  have hki : k ≠ i := fun e => by rw [e, hi] at hk; cases hk
  have H1 := H.join 0 1 (by omega) rfl rfl
  have H2 : St w F w' (one (.sep A R)) := H1.sub fun n C hC => by
    simp only [one, upd, Env.nil] at hC
    by_cases h0 : n = 0
    · subst h0; rw [if_pos rfl] at hC; rw [← hC]; rfl
    · rw [if_neg h0] at hC; cases hC
  have H3 := hback _ _ H2
  have H4 := H3.part (A := A) (B := R) i k (Ne.symm hki) (by simp [upd]) (by simp [upd, hki, hk])
  refine H4.env fun n => ?_
  simp only [upd]
  by_cases h1 : n = k
  · simp [h1]
  · by_cases h3 : n = i <;> simp [h1, h3]

attribute [local irreducible] comp2 hTo

/-- how many blocks the digest of n bytes takes -/
def allN (n : Nat) : Nat := n / 64 + lastN n

section
variable {w0 w : World} {F0 : List Nat} {E : Env}

set_option maxHeartbeats 4000000 in
theorem sh2Fn_s (l : Value) (r : Option (List RunT)) (m : Nat) (c : Int) (A : Option Addr) (n cA : Nat) (p : List UInt8) (H : St w0 F0 w E) (i k0 : Nat) (hi : E i = some (led l r)) (hk : E k0 = none) (hg : LW r m c) (hm : m ≤ 99999999) (hc : c ≤ 300000000000000000)
    (hR : ∀ w' X, St w0 F0 w' (upd E i X) → Rd w' 1 A n (p.map vb)) (hcap : n ≤ cA) (hn : n ≤ 281474976710000) :
    Calls Try.prog 12 #[l, .slice A n cA] w fun e w' => ∃ v, e = .returned v ∧ St w0 F0 w' (upd (upd E i (led l (noteN r 1 64 (allN n)))) k0 (.row 5 1 v 32 ((dig2 p).map vb))) := by
  have hl : p.length = n := by have h := (hR w _ (by rw [upd_id hi]; exact H)).1; simpa using h
  obtain ⟨F, HF, -, -, hback⟩ := H.frame1 i hi
  have HB := Lib.hid hback
  have HR0 : Hid (∀ w' X, St w F w' (lay [X]) → Rd w' 1 A n (p.map vb)) := fun w' X h => hR w' X (hback w' X (h.to1 rfl))
  have HI := Lib.hid hi
  have HK := Lib.hid hk
  have HG := Lib.hid hg
  have HL := Lib.hid hl
  replace HF := HF.as1
  clear H hback hi hk hR hl hg
  have hnb : n / 64 ≤ n := Nat.div_le_self _ _
  go_enter Try.func12, Try.ntmps12
  go_wp2_with fail
  refine (sh2New_s HF 1 rfl).mono ?_
  rintro e w1 ⟨g, rfl, H1⟩
  replace H1 := H1.push_mk rfl
  clear HF
  unfold lptr
  go_wp2_with fail
  refine (sh2Put_s l r m c g [] A n cA p H1 0 1 (by omega) rfl rfl HG.out (by omega) (by omega) (fun w' X Y h => HR0.out w' X (h.sub fun k C hC => by
    match k, hC with
    | 0, hC => simp only [lay, List.getElem?_cons_zero, Option.some.injEq] at hC; subst hC; rfl
    | k + 1, hC => simp [lay] at hC)) hcap (by rw [List.length_nil]; omega)).mono ?_
  rintro e w2 ⟨rfl, H2⟩
  rw [upd_laid2 (by simp), upd_laid2 (by simp), List.length_nil, Nat.zero_add, Nat.zero_div, Nat.sub_zero, List.nil_append] at H2
  clear H1
  go_wp2_with fail
  refine (sh2Sum_s l _ (m + 1) (c + ((n / 64 : Nat) : Int)) g p H2 0 1 2 (by omega) rfl rfl rfl (HG.out.noteN 1 64 _) (by omega) (by omega) (by rw [HL.out]; omega)).mono ?_
  rintro e w3 ⟨v, rfl, H3⟩
  rw [noteN_noteN, HL.out, upd_laid2 (by simp), upd_laid2 (by simp)] at H3
  replace H3 := H3.push_mk rfl
  clear H2
  have H4 : St w F w3 (lay [led l (noteN r 1 64 (allN n)), .row 5 1 v 32 ((dig2 p).map vb)]) := H3.permS [0, 2] 2 rfl (by decide) (fun i hi => by
    match i, hi with
    | 0, _ => rfl
    | 1, _ => rfl)
  clear H3
  obtain ⟨A3, c3, rfl, -, -⟩ := row_form (H4.row 1 rfl)
  go_wp2
  go_ret
  exact ⟨_, rfl, St.one_more2 HI.out HK.out HB.out H4⟩

end

/-- nil, or a state that nobody made -/
def Sh2No (w : World) (s : Value) : Prop := s = .pointer none ∨ ∃ g, s = lptr g ∧ w.cell? ⟨g, 73, none⟩ = some (.bool false)

theorem sh2Below {w w' : World} {a : Addr} {v : Value} (hb : Below w.heap.size w w') (h : w.cell? a = some v) : w'.cell? a = some v := by
  rw [hb.cell (World.block_lt_of_cell? w _ h)]; exact h

theorem Sh2No.below {w w' : World} {s : Value} (h : Sh2No w s) (hb : Below w.heap.size w w') : Sh2No w' s := by
  rcases h with rfl | ⟨g, rfl, c0⟩
  · exact .inl rfl
  · exact .inr ⟨g, rfl, sh2Below hb c0⟩

theorem St.sh2No {w0 w : World} {F0 : List Nat} {E : Env} {g : Nat} (H : St w0 F0 w E) (k : Nat) (hk : E k = some (.blk g 77 shZ)) : Sh2No w (lptr g) :=
  .inr ⟨g, rfl, H.cell k hk rfl⟩

section
variable {w : World}

theorem sh2Sum_none (l : Value) (s : Value) (h : Sh2No w s) : Calls Try.prog 25 #[s, l] w fun e w' => e = .returned (.tuple #[.slice none 0 0, .int .i64 1]) ∧ w = w' := by
  rcases h with rfl | ⟨g, rfl, c0⟩
  · go_enter Try.func25, Try.ntmps25
    go_wp2_with fail
    refine (sh2None_nil w).mono ?_
    rintro e w1 ⟨rfl, rfl⟩
    go_wp2
    go_ret2
    exact ⟨rfl, rfl⟩
  · go_enter Try.func25, Try.ntmps25
    go_wp2_with fail
    refine (sh2None_off g w c0).mono ?_
    rintro e w1 ⟨rfl, rfl⟩
    go_wp2
    go_ret2
    exact ⟨rfl, rfl⟩

theorem sh2Clone_none (s : Value) (h : Sh2No w s) : Calls Try.prog 33 #[s] w fun e w' => e = .returned (.tuple #[.pointer none, .int .i64 1]) ∧ w = w' := by
  rcases h with rfl | ⟨g, rfl, c0⟩
  · go_enter Try.func33, Try.ntmps33
    go_wp2_with fail
    refine (sh2None_nil w).mono ?_
    rintro e w1 ⟨rfl, rfl⟩
    go_wp2
    go_ret2
    exact ⟨rfl, rfl⟩
  · go_enter Try.func33, Try.ntmps33
    go_wp2_with fail
    refine (sh2None_off g w c0).mono ?_
    rintro e w1 ⟨rfl, rfl⟩
    go_wp2
    go_ret2
    exact ⟨rfl, rfl⟩

theorem sh2Write_none (l v : Value) (s : Value) (h : Sh2No w s) : Calls Try.prog 23 #[s, l, v] w fun e w' => e = .returned (.int .i64 1) ∧ w = w' := by
  rcases h with rfl | ⟨g, rfl, c0⟩
  · go_enter Try.func23, Try.ntmps23
    go_wp2_with fail
    refine (sh2None_nil w).mono ?_
    rintro e w1 ⟨rfl, rfl⟩
    go_wp2
    go_ret
    exact ⟨rfl, rfl⟩
  · go_enter Try.func23, Try.ntmps23
    go_wp2_with fail
    refine (sh2None_off g w c0).mono ?_
    rintro e w1 ⟨rfl, rfl⟩
    go_wp2
    go_ret
    exact ⟨rfl, rfl⟩

theorem sh2Reset_none (s : Value) (h : Sh2No w s) : Calls Try.prog 35 #[s] w fun e w' => e = .returned (.int .i64 1) ∧ w = w' := by
  rcases h with rfl | ⟨g, rfl, c0⟩
  · go_enter Try.func35, Try.ntmps35
    go_wp2_with fail
    refine (sh2None_nil w).mono ?_
    rintro e w1 ⟨rfl, rfl⟩
    go_wp2
    go_ret
    exact ⟨rfl, rfl⟩
  · go_enter Try.func35, Try.ntmps35
    go_wp2_with fail
    refine (sh2None_off g w c0).mono ?_
    rintro e w1 ⟨rfl, rfl⟩
    go_wp2
    go_ret
    exact ⟨rfl, rfl⟩

theorem sh2Wipe_none (l : Value) (s : Value) (h : Sh2No w s) : Calls Try.prog 34 #[s, l] w fun e w' => e = .returned (.int .i64 1) ∧ w = w' := by
  rcases h with rfl | ⟨g, rfl, c0⟩
  · go_enter Try.func34, Try.ntmps34
    go_wp2_with fail
    refine (sh2None_nil w).mono ?_
    rintro e w1 ⟨rfl, rfl⟩
    go_wp2
    go_ret
    exact ⟨rfl, rfl⟩
  · go_enter Try.func34, Try.ntmps34
    go_wp2_with fail
    refine (sh2None_off g w c0).mono ?_
    rintro e w1 ⟨rfl, rfl⟩
    go_wp2
    go_ret
    exact ⟨rfl, rfl⟩

theorem sh2Form_none (s : Value) (h : Sh2No w s) : Calls Try.prog 22 #[s] w fun e w' => e = .returned (.slice none 0 0) ∧ w = w' := by
  rcases h with rfl | ⟨g, rfl, c0⟩
  · go_enter Try.func22, Try.ntmps22
    go_wp2_with fail
    refine (sh2None_nil w).mono ?_
    rintro e w1 ⟨rfl, rfl⟩
    go_wp2
    go_ret
    exact ⟨rfl, rfl⟩
  · go_enter Try.func22, Try.ntmps22
    go_wp2_with fail
    refine (sh2None_off g w c0).mono ?_
    rintro e w1 ⟨rfl, rfl⟩
    go_wp2
    go_ret
    exact ⟨rfl, rfl⟩

theorem sh2Len_none (s : Value) (h : Sh2No w s) : Calls Try.prog 27 #[s] w fun e w' => e = .returned (.int .i64 0) ∧ w = w' := by
  rcases h with rfl | ⟨g, rfl, c0⟩
  · go_enter Try.func27, Try.ntmps27
    go_wp2_with fail
    refine (sh2None_nil w).mono ?_
    rintro e w1 ⟨rfl, rfl⟩
    go_wp2
    go_ret
    exact ⟨rfl, rfl⟩
  · go_enter Try.func27, Try.ntmps27
    go_wp2_with fail
    refine (sh2None_off g w c0).mono ?_
    rintro e w1 ⟨rfl, rfl⟩
    go_wp2
    go_ret
    exact ⟨rfl, rfl⟩

end
end Go.Proofs.Ytcnphkmcgefjoaa

namespace Go.Proofs.Ytcnphkmcgefjoaa
open Go.RowKit
set_option linter.unusedVariables false
set_option maxRecDepth 100000

attribute [local irreducible] comp2 hTo

def form2 (M : List UInt8) : List UInt8 := laid4 (h2 M) 8 ++ beL 8 M.length ++ w2' M
theorem form2_length (M : List UInt8) : (form2 M).length = 104 := by
  unfold form2
  rw [List.length_append, List.length_append, laid4_length (by rw [h2_length]; omega), beL_length, w2_length]

section
variable {w0 w : World} {F0 : List Nat} {E : Env}

set_option maxHeartbeats 4000000 in
theorem sh2Form_s (g : Nat) (M : List UInt8) (H : St w0 F0 w E) (j k : Nat) (hj : E j = some (.blk g 77 (sh2S M))) (hk : E k = none) (hn : M.length ≤ 281474976710656) :
    Calls Try.prog 22 #[lptr g] w fun e w' => ∃ v, e = .returned v ∧ St w0 F0 w' (upd E k (.row 5 1 v 104 ((form2 M).map vb))) := by
  obtain ⟨i0, hi0, hz0, hz1, hz2⟩ := info_parts u8_info
  have HI0 := Lib.hid (⟨hi0, hz0, hz1, hz2⟩ : _ ∧ _ ∧ _ ∧ _)
  clear hi0 hz0 hz1 hz2
  obtain ⟨F, HF, -, -, hback⟩ := H.frame1 j hj
  have HB := Lib.hid hback
  have HJ := Lib.hid hj
  have HK := Lib.hid hk
  replace HF := HF.as1
  clear H hback hj hk
  have c0 := HF.cell 0 rfl (shVs_made (h2_length M) (w2_length M))
  go_enter Try.func22, Try.ntmps22
  go_wp2_with fail
  refine (sh2None_no g w c0).mono ?_
  rintro e w1 ⟨rfl, rfl⟩
  unfold lptr
  have H : St w F w (lay [.blk g 77 (sh2S M)]) := HF
  clear HF c0
  have HC8 : Hid (∀ w' X, St w F w' X → X 0 = some (.blk g 77 (sh2S M)) → w'.cell? ⟨g, 8, none⟩ = some (.int .i64 (M.length : Int))) := fun w' X h hX => h.cell 0 hX (shVs_n (h2_length M))
  go_upto_region 3 with fail
  replace H := H.drew
  refine wp_region_held_drew (S := fun w' : World => w'.cell? ⟨g, 8, none⟩ = some (.int .i64 (M.length : Int))) (by kernel_rfl) ?_ (fun hHeld => ?_)
  · exact HC8.out _ _ H rfl
  refine takeV 0 rfl (by intro w h; clear h; go_simp; try with_reducible rfl) (by kernel_rfl) (by kernel_rfl) (by kernel_rfl) (by exact fun _ _ _ h => h) (by rfl) (by assumption) ?_
  try simp only [Act.put, List.setIfInBounds_toArray, List.set_cons_zero, List.set_cons_succ]
  refine takeV 2 rfl (by intro w h; clear h; go_simp; try with_reducible rfl) (by kernel_rfl) (by kernel_rfl) (by kernel_rfl) (by exact fun _ _ _ h => h) (by rfl) (by assumption) ?_
  try simp only [Act.put, List.setIfInBounds_toArray, List.set_cons_zero, List.set_cons_succ]
  refine takeV 3 rfl (by intro w h; clear h; go_simp; try with_reducible rfl) (by kernel_rfl) (by kernel_rfl) (by kernel_rfl) (by exact fun _ _ _ h => h) (by rfl) (by assumption) ?_
  try simp only [Act.put, List.setIfInBounds_toArray, List.set_cons_zero, List.set_cons_succ]
  refine takeV 4 rfl (by intro w h; clear h; go_simp; try with_reducible rfl) (by kernel_rfl) (by kernel_rfl) (by kernel_rfl) (by exact fun _ _ _ h => h) (by rfl) (by assumption) ?_
  try simp only [Act.put, List.setIfInBounds_toArray, List.set_cons_zero, List.set_cons_succ]
  refine takeV 5 rfl (by intro w h; have hc := h; clear h; go_simp; try with_reducible rfl) (by kernel_rfl) (by kernel_rfl) (by kernel_rfl) (by exact fun _ _ _ h => h) (by rfl) (by assumption) ?_
  try simp only [Act.put, List.setIfInBounds_toArray, List.set_cons_zero, List.set_cons_succ]
  refine takeV 6 rfl (by intro w h; clear h; go_simp; try with_reducible rfl) (by kernel_rfl) (by kernel_rfl) (by kernel_rfl) (by exact fun _ _ _ h => h) (by rfl) (by assumption) ?_
  try simp only [Act.put, List.setIfInBounds_toArray, List.set_cons_zero, List.set_cons_succ]
  refine take_call 1 rfl (by kernel_rfl) (fun K hK => ?_)
  try go_simp
  refine (sh2Words_s g (h2 M) _ _ H 0 rfl (h2_length M)).mono ?_
  rintro e wa ⟨v1, rfl, ho, hb⟩
  unfold OwnB at ho
  rw [laid4_length (by rw [h2_length]; omega)] at ho
  replace H := (H.pushRow 1 rfl hb ho).push_mk rfl
  clear ho hb
  obtain ⟨A1, c1, rfl, -, -⟩ := row_form (H.row 1 rfl)
  refine hK.out _ _ ?_ (fun hHeld => ?_)
  · exact HC8.out _ _ H rfl
  clear hK K
  try simp only [Act.put, List.setIfInBounds_toArray, List.set_cons_zero, List.set_cons_succ]
  rw [show IntKind.u64.wrap (M.length : Int) = (M.length : Int) from IntWalk.u64_in _ (by omega)]
  refine take_call 7 rfl (by kernel_rfl) (fun K hK => ?_)
  try go_simp
  refine (lay_u64 M.length _ (by omega)).mono ?_
  rintro e wb ⟨v2, rfl, ho, hb⟩
  unfold OwnB at ho
  rw [beL_length] at ho
  replace H := (H.pushRow 2 rfl hb ho).push_mk rfl
  clear ho hb
  obtain ⟨A2, c2, rfl, -, -⟩ := row_form (H.row 2 rfl)
  refine hK.out _ _ ?_ (fun hHeld => ?_)
  · exact HC8.out _ _ H rfl
  clear hK K
  try simp only [Act.put, List.setIfInBounds_toArray, List.set_cons_zero, List.set_cons_succ]
  refine take_call 8 rfl (by kernel_rfl) (fun K hK => ?_)
  obtain ⟨hi0, hz0, hz1, hz2⟩ := HI0.out
  refine step_append_any _ (by rfl) (.tmp 7) (.tmp 13) _ (by rfl) 0 5 i0 (.int .u8 0) 1 1 Try.underlying22 hi0 hz0 hz1 hz2 rfl (by omega) (.slice A1 (4 * 8) c1) (4 * 8) ((laid4 (h2 M) 8).map vb) (by rfl) (H.row 1 rfl) A2 8 c2 ((beL 8 M.length).map vb) (by rfl) (H.rd 2 rfl) (vb_one _) (by simp only [maxLen]; omega) (by omega) (Nat.zero_le _) ?_
  intro v3 w5 hown hg2 hat
  replace H := ((H.grow 1 rfl hown hg2 hat).upd_mk (by simp)).front 2
  refine hK.out _ _ (HC8.out _ _ H rfl) (fun hHeld => ?_)
  clear hK K hown hg2 hat hi0 hz0 hz1 hz2
  try simp only [Act.put, List.setIfInBounds_toArray, List.set_cons_zero, List.set_cons_succ]
  refine takeV 9 rfl (by intro w h; clear h; go_simp; try with_reducible rfl) (by kernel_rfl) (by kernel_rfl) (by kernel_rfl) (by exact fun _ _ _ h => h) (by rfl) (by assumption) ?_
  try simp only [Act.put, List.setIfInBounds_toArray, List.set_cons_zero, List.set_cons_succ]
  refine wpAnyH_done (by kernel_rfl) ?_ _
  clear hHeld
  rw [← List.map_append] at H
  obtain ⟨A1, c1, rfl, -, -⟩ := row_form (H.row 1 rfl)
  replace H : St w F w5 (lay [.blk g 77 (sh2S M), .row 5 1 (.slice A1 40 c1) 40 ((laid4 (h2 M) 8 ++ beL 8 M.length).map vb)]) := H
  go_wp2_with (at_builtin; refine hold_here' ?_)
  refine Lib.hid ?_
  obtain ⟨hi0, hz0, hz1, hz2⟩ := HI0.out
  refine wpList_append_any _ rfl (.tmp 15) (.tmp 19) _ rfl 0 5 i0 _ 1 1 Try.underlying22 hi0 hz0 hz1 hz2 rfl (by omega) (.slice A1 40 c1) 40 ((laid4 (h2 M) 8 ++ beL 8 M.length).map vb) rfl (H.row 1 rfl) (some ⟨g, 9, none⟩) 64 64 ((w2' M).map vb) rfl (H.shRd 0 rfl (h2_length M) (w2_length M)) (vb_one _) (by simp only [maxLen]; omega) (by omega) (by omega) ?_
  intro v6 w6 hown6 hg6 hat6
  replace H := (H.grow 1 rfl hown6 hg6 hat6).upd_mk (by simp)
  rw [← List.map_append] at H
  clear hown6 hg6 hat6 hi0 hz0 hz1 hz2
  have H2 : St w F w6 (lay [.blk g 77 (sh2S M), .row 5 1 v6 104 ((form2 M).map vb)]) := H
  clear H
  obtain ⟨A6, c6, rfl, -, -⟩ := row_form (H2.row 1 rfl)
  go_wp2
  go_ret
  have H3 := St.one_more2 HJ.out HK.out HB.out H2
  rw [upd_id HJ.out] at H3
  exact ⟨_, rfl, H3⟩

set_option maxHeartbeats 1000000 in
theorem sh2Len_s (g : Nat) (M : List UInt8) (H : St w0 F0 w E) (j : Nat) (hj : E j = some (.blk g 77 (sh2S M))) :
    Calls Try.prog 27 #[lptr g] w fun e w' => e = .returned (.int .i64 (M.length : Int)) ∧ w = w' := by
  have c0 := H.cell j hj (shVs_made (h2_length M) (w2_length M))
  have c8 := H.cell j hj (shVs_n (n := M.length) (b := w2' M) (h2_length M))
  clear H hj
  go_enter Try.func27, Try.ntmps27
  go_wp2_with fail
  refine (sh2None_no g w c0).mono ?_
  rintro e w1 ⟨rfl, rfl⟩
  unfold lptr
  go_wp2
  go_ret
  exact ⟨rfl, rfl⟩

set_option maxHeartbeats 1000000 in
theorem sh2Clone_s (g : Nat) (M : List UInt8) (H : St w0 F0 w E) (j k : Nat) (hj : E j = some (.blk g 77 (sh2S M))) (hk : E k = none) :
    Calls Try.prog 33 #[lptr g] w fun e w' => ∃ g', e = .returned (.tuple #[lptr g', .int .i64 0]) ∧ St w0 F0 w' (upd E k (.blk g' 77 (sh2S M))) := by
  have c0 := H.cell j hj (shVs_made (h2_length M) (w2_length M))
  have hz0 := zero_sh
  have HJ := Lib.hid hj
  have HK := Lib.hid hk
  clear hj hk
  go_enter Try.func33, Try.ntmps33
  go_wp2_with fail
  refine (sh2None_no g w c0).mono ?_
  rintro e w1 ⟨rfl, rfl⟩
  unfold lptr
  go_wp2_with (first | (with_reducible refine hold_store 77 (.tmp 4) (.tmp 9) (by rfl) ?_) | (refine wpList_load_row rfl 77 (.tmp 8) rfl g rfl _ _ _ _ (H.blk j HJ.out) Try.underlying77 rfl (by rw [sh_size]; simp [sh2S_length]) ?_))
  refine Lib.hid ?_
  refine absorb_list (H.allocAt k HK.out w.heap.size rfl shZ.toArray 77) ?_
  clear H c0
  intro w3 H
  generalize w.heap.size = gt at H ⊢
  refine wpList_store_mid rfl 77 (.tmp 4) (.tmp 9) rfl gt 0 (sh2S M).toArray rfl rfl (by have ht := H.there k upd_same; rw [List.size_toArray, sh2S_length]; exact ht) (by rw [sh_size, List.size_toArray, sh2S_length]) (all_oneCell_toArray (sh2S_one M)) ?_
  have H2 := H.storeAll k upd_same (vs := sh2S M) (by rw [sh2S_length]; rfl)
  rw [upd_upd] at H2
  show wpList Try.prog _ _ [] _ (w3.setCells gt 0 (sh2S M))
  generalize w3.setCells gt 0 (sh2S M) = w4 at H2 ⊢
  go_wp2
  go_ret2
  exact ⟨_, rfl, H2⟩

end
end Go.Proofs.Ytcnphkmcgefjoaa

namespace Go.Proofs.Ytcnphkmcgefjoaa
open Go.RowKit
set_option linter.unusedVariables false
set_option maxRecDepth 100000
attribute [local irreducible] comp2 hTo
section
variable {w0 w : World} {F0 : List Nat} {E : Env}
set_option maxHeartbeats 1000000 in
theorem sh2Reset_s (g : Nat) (M : List UInt8) (H : St w0 F0 w E) (j : Nat) (hj : E j = some (.blk g 77 (sh2S M))) :
    Calls Try.prog 35 #[lptr g] w fun e w' => e = .returned (.int .i64 0) ∧ St w0 F0 w' (upd E j (.blk g 77 (sh2S []))) := by
  obtain ⟨F, HF, -, -, hback⟩ := H.frame1 j hj
  have HB := Lib.hid hback
  replace HF := HF.as1
  clear H hback hj
  have c0 := HF.cell 0 rfl (shVs_made (h2_length M) (w2_length M))
  go_enter Try.func35, Try.ntmps35
  go_wp2_with fail
  refine (sh2None_no g w c0).mono ?_
  rintro e w1 ⟨rfl, rfl⟩
  unfold lptr
  go_wp2_with fail
  refine (sh2New_s HF 1 rfl).mono ?_
  rintro e w2 ⟨g', rfl, H1⟩
  have H : St w F w2 (lay [.blk g 77 (sh2S M), .blk g' 77 (sh2S [])]) := H1.push_mk rfl
  clear H1 HF c0
  unfold lptr
  go_wp2_with (first | (with_reducible refine hold_store 77 (.tmp 9) (.tmp 8) (by rfl) ?_) | (refine wpList_load_row rfl 77 (.tmp 7) rfl g' rfl _ _ _ _ (H.blk 1 rfl) Try.underlying77 rfl (by rw [sh_size]; simp [sh2S_length]) ?_))
  refine Lib.hid ?_
  refine wpList_store_mid rfl 77 (.tmp 9) (.tmp 8) rfl g 0 (sh2S []).toArray rfl rfl (by have ht := H.there 0 rfl; rw [sh2S_length] at ht; rw [List.size_toArray, sh2S_length]; exact ht) (by rw [sh_size, List.size_toArray, sh2S_length]) (all_oneCell_toArray (sh2S_one [])) ?_
  have H2 := ((H.storeAll 0 rfl (vs := sh2S []) (by rw [sh2S_length, sh2S_length])).upd_mk (by simp)).front 1
  show wpList Try.prog _ _ [] _ (w2.setCells g 0 (sh2S []))
  generalize w2.setCells g 0 (sh2S []) = w4 at H2 ⊢
  go_wp2
  go_ret
  exact ⟨rfl, HB.out _ _ (H2.to1 rfl)⟩
end
end Go.Proofs.Ytcnphkmcgefjoaa

namespace Go.Proofs.Ytcnphkmcgefjoaa
open Go.RowKit
set_option linter.unusedVariables false
set_option maxRecDepth 100000

def abcB : List UInt8 := [97, 98, 99]
def abcW : List UInt32 := [0xba7816bf, 0x8f01cfea, 0x414140de, 0x5dae2223, 0xb00361a3, 0x96177a9c, 0xb410ff61, 0xf20015ad]
theorem abc_val : dig2 abcB = laid4 abcW 8 := by decide +kernel

theorem beL4_eq (x : Nat) : beL 4 x = [UInt8.ofNat (x / 256 ^ 3), UInt8.ofNat (x / 256 ^ 2), UInt8.ofNat (x / 256 ^ 1), UInt8.ofNat (x / 256 ^ 0)] := rfl

attribute [local irreducible] comp2 hTo

set_option maxHeartbeats 4000000 in
theorem wants_s (h : List UInt32) (hh : h.length = 8) (w : World) :
    Calls Try.prog 20 #[.agg (h.map u32v).toArray] w fun e w' => ∃ v, e = .returned v ∧ OwnB w' w.heap.size v (laid4 h 8) ∧ Below w.heap.size w w' := by
  obtain ⟨i0, hi0, hz0, hz1, hz2⟩ := info_parts u8_info
  have HI := Lib.hid (⟨hi0, hz0, hz1, hz2⟩ : _ ∧ _ ∧ _ ∧ _)
  clear hi0 hz0 hz1 hz2
  have HH := Lib.hid hh
  clear hh
  have H := (St.start_lay w []).nilRow 0 rfl 5 1 |>.push_mk rfl
  go_enter Try.func20, Try.ntmps20
  go_upto_region 1 with fail
  refine absorb_wp (H.allocAt 1 rfl w.heap.size rfl _ _ |>.push_mk rfl) ?_
  clear H
  intro w1 H
  generalize w.heap.size = gb at H ⊢
  replace H : St w [] w1 (lay [.row 5 1 (.slice none 0 0) 0 [], .blk gb 40 (h.map u32v)]) := H
  go_wp2
  go_loopw [3, 4] (fun v i wr => ∃ k : Nat, k ≤ 8 ∧ i = .int .i64 k ∧ St w [] wr (lay [.row 5 1 v (4 * k) ((laid4 h k).map vb), .blk gb 40 (h.map u32v)])) (fun _ i _ => 8 - (intOf i).toNat)
  case atStart => exact ⟨0, by omega, rfl, H⟩
  case round =>
    clear H
    obtain ⟨k, hk, rfl, H⟩ := hrel
    obtain ⟨AV, cV, rfl, -, -⟩ := row_form (H.row 0 rfl)
    by_cases hlt : k < 8
    · have hk1 : (k : Int) < 8 := by omega
      have a0 := H.cell 1 rfl (u32_get (l := h) (k := k) (by rw [HH.out]; exact hlt))
      have HS := Lib.hid (laid4_succ (l := h) (k := k) (by rw [HH.out]; exact hlt))
      have HA : Hid (∀ w' X, St w [] w' X → X 1 = some (.blk gb 40 (h.map u32v)) → w'.cell? ⟨gb, k, none⟩ = some (.int .u32 ((at32 h k).toNat : Int))) := fun w' X h hX => h.cell 1 hX (u32_get (by rw [HH.out]; exact hlt))
      generalize at32 h k = x at a0 HS HA
      go_upto_region 5 with fail
      replace H := H.drew
      refine wp_region_held_drew (S := fun w' : World => w'.cell? ⟨gb, k, none⟩ = some (.int .u32 (x.toNat : Int))) (by kernel_rfl) ?_ (fun hHeld => ?_)
      · exact HA.out _ _ H rfl
      refine takeV 0 rfl (by intro w h; clear h; go_simp; try with_reducible rfl) (by kernel_rfl) (by kernel_rfl) (by kernel_rfl) (by exact fun _ _ _ h => h) (by rfl) (by assumption) ?_
      try simp only [Act.put, List.setIfInBounds_toArray, List.set_cons_zero, List.set_cons_succ]
      refine takeV 1 rfl (by intro w h; clear h; go_simp; try with_reducible rfl) (by kernel_rfl) (by kernel_rfl) (by kernel_rfl) (by exact fun _ _ _ h => h) (by rfl) (by assumption) ?_
      try simp only [Act.put, List.setIfInBounds_toArray, List.set_cons_zero, List.set_cons_succ]
      refine takeV 2 rfl (by intro w h; clear h; go_simp; try with_reducible rfl) (by kernel_rfl) (by kernel_rfl) (by kernel_rfl) (by exact fun _ _ _ h => h) (by rfl) (by assumption) ?_
      try simp only [Act.put, List.setIfInBounds_toArray, List.set_cons_zero, List.set_cons_succ]
      refine takeV 3 rfl (by intro w h; have hc := h; clear h; go_simp; try with_reducible rfl) (by kernel_rfl) (by kernel_rfl) (by kernel_rfl) (by exact fun _ _ _ h => h) (by rfl) (by assumption) ?_
      try simp only [Act.put, List.setIfInBounds_toArray, List.set_cons_zero, List.set_cons_succ]
      refine takeV 4 rfl (by intro w h; clear h; go_simp; try with_reducible rfl) (by kernel_rfl) (by kernel_rfl) (by kernel_rfl) (by exact fun _ _ _ h => h) (by rfl) (by assumption) ?_
      try simp only [Act.put, List.setIfInBounds_toArray, List.set_cons_zero, List.set_cons_succ]
      refine takeV 5 rfl (by intro w h; clear h; go_simp; try with_reducible rfl) (by kernel_rfl) (by kernel_rfl) (by kernel_rfl) (by exact fun _ _ _ h => h) (by rfl) (by assumption) ?_
      try simp only [Act.put, List.setIfInBounds_toArray, List.set_cons_zero, List.set_cons_succ]
      refine takeV 6 rfl (by intro w h; clear h; go_simp; try with_reducible rfl) (by kernel_rfl) (by kernel_rfl) (by kernel_rfl) (by exact fun _ _ _ h => h) (by rfl) (by assumption) ?_
      try simp only [Act.put, List.setIfInBounds_toArray, List.set_cons_zero, List.set_cons_succ]
      refine takeV 7 rfl (by intro w h; clear h; go_simp; try with_reducible rfl) (by kernel_rfl) (by kernel_rfl) (by kernel_rfl) (by exact fun _ _ _ h => h) (by rfl) (by assumption) ?_
      try simp only [Act.put, List.setIfInBounds_toArray, List.set_cons_zero, List.set_cons_succ]
      refine takeV 8 rfl (by intro w h; have hc := h; clear h; go_simp; try with_reducible rfl) (by kernel_rfl) (by kernel_rfl) (by kernel_rfl) (by exact fun _ _ _ h => h) (by rfl) (by assumption) ?_
      try simp only [Act.put, List.setIfInBounds_toArray, List.set_cons_zero, List.set_cons_succ]
      refine takeV 9 rfl (by intro w h; clear h; go_simp; try with_reducible rfl) (by kernel_rfl) (by kernel_rfl) (by kernel_rfl) (by exact fun _ _ _ h => h) (by rfl) (by assumption) ?_
      try simp only [Act.put, List.setIfInBounds_toArray, List.set_cons_zero, List.set_cons_succ]
      refine takeV 10 rfl (by intro w h; clear h; go_simp; try with_reducible rfl) (by kernel_rfl) (by kernel_rfl) (by kernel_rfl) (by exact fun _ _ _ h => h) (by rfl) (by assumption) ?_
      try simp only [Act.put, List.setIfInBounds_toArray, List.set_cons_zero, List.set_cons_succ]
      refine takeV 11 rfl (by intro w h; clear h; go_simp; try with_reducible rfl) (by kernel_rfl) (by kernel_rfl) (by kernel_rfl) (by exact fun _ _ _ h => h) (by rfl) (by assumption) ?_
      try simp only [Act.put, List.setIfInBounds_toArray, List.set_cons_zero, List.set_cons_succ]
      refine takeV 12 rfl (by intro w h; clear h; go_simp; try with_reducible rfl) (by kernel_rfl) (by kernel_rfl) (by kernel_rfl) (by exact fun _ _ _ h => h) (by rfl) (by assumption) ?_
      try simp only [Act.put, List.setIfInBounds_toArray, List.set_cons_zero, List.set_cons_succ]
      refine takeV 13 rfl (by intro w h; have hc := h; clear h; go_simp; try with_reducible rfl) (by kernel_rfl) (by kernel_rfl) (by kernel_rfl) (by exact fun _ _ _ h => h) (by rfl) (by assumption) ?_
      try simp only [Act.put, List.setIfInBounds_toArray, List.set_cons_zero, List.set_cons_succ]
      refine takeV 14 rfl (by intro w h; clear h; go_simp; try with_reducible rfl) (by kernel_rfl) (by kernel_rfl) (by kernel_rfl) (by exact fun _ _ _ h => h) (by rfl) (by assumption) ?_
      try simp only [Act.put, List.setIfInBounds_toArray, List.set_cons_zero, List.set_cons_succ]
      refine takeV 15 rfl (by intro w h; clear h; go_simp; try with_reducible rfl) (by kernel_rfl) (by kernel_rfl) (by kernel_rfl) (by exact fun _ _ _ h => h) (by rfl) (by assumption) ?_
      try simp only [Act.put, List.setIfInBounds_toArray, List.set_cons_zero, List.set_cons_succ]
      refine takeV 16 rfl (by intro w h; clear h; go_simp; try with_reducible rfl) (by kernel_rfl) (by kernel_rfl) (by kernel_rfl) (by exact fun _ _ _ h => h) (by rfl) (by assumption) ?_
      try simp only [Act.put, List.setIfInBounds_toArray, List.set_cons_zero, List.set_cons_succ]
      refine takeV 17 rfl (by intro w h; clear h; go_simp; try with_reducible rfl) (by kernel_rfl) (by kernel_rfl) (by kernel_rfl) (by exact fun _ _ _ h => h) (by rfl) (by assumption) ?_
      try simp only [Act.put, List.setIfInBounds_toArray, List.set_cons_zero, List.set_cons_succ]
      refine takeV 18 rfl (by intro w h; have hc := h; clear h; go_simp; try with_reducible rfl) (by kernel_rfl) (by kernel_rfl) (by kernel_rfl) (by exact fun _ _ _ h => h) (by rfl) (by assumption) ?_
      try simp only [Act.put, List.setIfInBounds_toArray, List.set_cons_zero, List.set_cons_succ]
      refine takeV 19 rfl (by intro w h; clear h; go_simp; try with_reducible rfl) (by kernel_rfl) (by kernel_rfl) (by kernel_rfl) (by exact fun _ _ _ h => h) (by rfl) (by assumption) ?_
      try simp only [Act.put, List.setIfInBounds_toArray, List.set_cons_zero, List.set_cons_succ]
      refine take_call 20 rfl (by kernel_rfl) (fun K hK => ?_)
      go_simp
      have H4 := (H.alloc 2 rfl #[.int .u8 ((x.toNat : Int) / 16777216 % 256), .int .u8 ((x.toNat : Int) / 65536 % 256), .int .u8 ((x.toNat : Int) / 256 % 256), .int .u8 ((x.toNat : Int) % 256)] 5).push_mk rfl
      refine hK.out _ _ (HA.out _ _ H4 rfl) (fun hHeld => ?_)
      clear hK K
      try simp only [Act.put, List.setIfInBounds_toArray, List.set_cons_zero, List.set_cons_succ]
      refine take_call 21 rfl (by kernel_rfl) (fun K hK => ?_)
      obtain ⟨hi0, hz0, hz1, hz2⟩ := HI.out
      refine step_append_any _ (by rfl) (.tmp 9) (.tmp 29) _ (by rfl) 0 5 i0 (.int .u8 0) 1 1 Try.underlying22 hi0 hz0 hz1 hz2 rfl (by omega) (.slice AV (4 * k) cV) (4 * k) ((laid4 h k).map vb) (by rfl) (H4.row 0 rfl) _ 4 4 [.int .u8 ((x.toNat : Int) / 16777216 % 256), .int .u8 ((x.toNat : Int) / 65536 % 256), .int .u8 ((x.toNat : Int) / 256 % 256), .int .u8 ((x.toNat : Int) % 256)] (by rfl) (H4.rdBlk 2 rfl 1 4 rfl) (by intro q hq; simp at hq; rcases hq with rfl | rfl | rfl | rfl <;> rfl) (by simp only [maxLen]; omega) (by omega) (Nat.zero_le _) ?_
      intro v1 w5 hown hg2 hat
      have H5 := ((H4.grow 0 rfl hown hg2 hat).upd_mk (by simp)).front 2
      refine hK.out _ _ (HA.out _ _ H5 rfl) (fun hHeld => ?_)
      clear hK K H4 H hown hg2 hat hi0 hz0 hz1 hz2 a0
      try simp only [Act.put, List.setIfInBounds_toArray, List.set_cons_zero, List.set_cons_succ]
      refine takeV 22 rfl (by intro w h; clear h; go_simp; try with_reducible rfl) (by kernel_rfl) (by kernel_rfl) (by kernel_rfl) (by exact fun _ _ _ h => h) (by rfl) (by assumption) ?_
      try simp only [Act.put, List.setIfInBounds_toArray, List.set_cons_zero, List.set_cons_succ]
      refine wpAnyH_done (by kernel_rfl) ?_ _
      clear hHeld
      have hbe : [.int .u8 ((x.toNat : Int) / 16777216 % 256), .int .u8 ((x.toNat : Int) / 65536 % 256), .int .u8 ((x.toNat : Int) / 256 % 256), .int .u8 ((x.toNat : Int) % 256)] = (beL 4 x.toNat).map vb := by rw [beL4_eq, List.map_cons, List.map_cons, List.map_cons, List.map_cons, List.map_nil]; unfold vb; rw [← byte_eq, ← byte_eq, ← byte_eq, ← byte_eq]; simp
      have H6 : St w [] w5 (lay [.row 5 1 v1 (4 * k + 4) ((laid4 h k).map vb ++ [.int .u8 ((x.toNat : Int) / 16777216 % 256), .int .u8 ((x.toNat : Int) / 65536 % 256), .int .u8 ((x.toNat : Int) / 256 % 256), .int .u8 ((x.toNat : Int) % 256)]), .blk gb 40 (h.map u32v)]) := H5
      rw [hbe, ← List.map_append, ← HS.out] at H6
      clear H5 hbe
      go_wp2
      go_roundw
      case rel => exact ⟨k + 1, by omega, by go_num, H6⟩
      case measure => simp [intOf]; omega
    · obtain rfl : k = 8 := by omega
      go_wp2
      go_ret
      exact ⟨_, rfl, (by unfold OwnB; rw [laid4_length (by rw [HH.out]; omega)]; exact H.newRow' 0 rfl), H.below⟩
end Go.Proofs.Ytcnphkmcgefjoaa

namespace Go.Proofs.Ytcnphkmcgefjoaa
open Go.RowKit
set_option linter.unusedVariables false
set_option maxRecDepth 100000

theorem ror_or (x : UInt32) (n : Nat) (h1 : 1 ≤ n) (h2 : n < 32) : bits .or .u32 ((x.toNat : Int) / 2 ^ n) ((x.toNat : Int) * 2 ^ (32 - n) % 4294967296) = ((ror32 x n).toNat : Int) := by
  have e1 : (x.toNat : Int) / 2 ^ n = ((x.toNat / 2 ^ n : Nat) : Int) := by rw [Int.natCast_ediv, Int.natCast_pow]; rfl
  have e2 : (x.toNat : Int) * 2 ^ (32 - n) % 4294967296 = ((x.toNat * 2 ^ (32 - n) % 2 ^ 32 : Nat) : Int) := by
    rw [Int.natCast_emod, Int.natCast_mul, Int.natCast_pow, show ((2 ^ 32 : Nat) : Int) = 4294967296 from rfl]; rfl
  have hx := x.toNat_lt
  have hr := rotN_or 32 x.toNat (32 - n) (by omega) hx
  rw [show 32 - (32 - n) = n by omega] at hr
  have h3 : x.toNat / 2 ^ n < 2 ^ 32 := Nat.lt_of_le_of_lt (Nat.div_le_self _ _) hx
  rw [e1, e2, u32_or_nat _ _ h3 (Nat.mod_lt _ (by decide)), Nat.or_comm, hr, ror32_toNat x n h2 h1]

theorem rr_2 (x : UInt32) (w : World) (q : Nat) : Calls Try.prog 77 #[.int .u32 (x.toNat : Int), .int .i64 2] (w.drewN q) fun e w' => e = .returned (.int .u32 ((ror32 x 2).toNat : Int)) ∧ ∃ m, w' = w.drewN m := by
  have hv := ror_or x 2 (by omega) (by omega)
  rw [show ((2 : Int) ^ 2) = 4 from rfl, show ((2 : Int) ^ (32 - 2)) = 1073741824 from rfl] at hv
  have HV := Lib.hid hv
  clear hv
  generalize hw : w.drewN q = w1
  have HW := Lib.hid hw
  clear hw
  go_enter Try.func77, Try.ntmps77
  go_wp2
  go_quiet (fail)
  go_wp2
  go_ret
  exact ⟨by rw [HV.out]; rfl, by rw [← HW.out]; exact ⟨_, World.drewN_drewN _ _ _⟩⟩

theorem rr_6 (x : UInt32) (w : World) (q : Nat) : Calls Try.prog 77 #[.int .u32 (x.toNat : Int), .int .i64 6] (w.drewN q) fun e w' => e = .returned (.int .u32 ((ror32 x 6).toNat : Int)) ∧ ∃ m, w' = w.drewN m := by
  have hv := ror_or x 6 (by omega) (by omega)
  rw [show ((2 : Int) ^ 6) = 64 from rfl, show ((2 : Int) ^ (32 - 6)) = 67108864 from rfl] at hv
  have HV := Lib.hid hv
  clear hv
  generalize hw : w.drewN q = w1
  have HW := Lib.hid hw
  clear hw
  go_enter Try.func77, Try.ntmps77
  go_wp2
  go_quiet (fail)
  go_wp2
  go_ret
  exact ⟨by rw [HV.out]; rfl, by rw [← HW.out]; exact ⟨_, World.drewN_drewN _ _ _⟩⟩

theorem rr_7 (x : UInt32) (w : World) (q : Nat) : Calls Try.prog 77 #[.int .u32 (x.toNat : Int), .int .i64 7] (w.drewN q) fun e w' => e = .returned (.int .u32 ((ror32 x 7).toNat : Int)) ∧ ∃ m, w' = w.drewN m := by
  have hv := ror_or x 7 (by omega) (by omega)
  rw [show ((2 : Int) ^ 7) = 128 from rfl, show ((2 : Int) ^ (32 - 7)) = 33554432 from rfl] at hv
  have HV := Lib.hid hv
  clear hv
  generalize hw : w.drewN q = w1
  have HW := Lib.hid hw
  clear hw
  go_enter Try.func77, Try.ntmps77
  go_wp2
  go_quiet (fail)
  go_wp2
  go_ret
  exact ⟨by rw [HV.out]; rfl, by rw [← HW.out]; exact ⟨_, World.drewN_drewN _ _ _⟩⟩

theorem rr_11 (x : UInt32) (w : World) (q : Nat) : Calls Try.prog 77 #[.int .u32 (x.toNat : Int), .int .i64 11] (w.drewN q) fun e w' => e = .returned (.int .u32 ((ror32 x 11).toNat : Int)) ∧ ∃ m, w' = w.drewN m := by
  have hv := ror_or x 11 (by omega) (by omega)
  rw [show ((2 : Int) ^ 11) = 2048 from rfl, show ((2 : Int) ^ (32 - 11)) = 2097152 from rfl] at hv
  have HV := Lib.hid hv
  clear hv
  generalize hw : w.drewN q = w1
  have HW := Lib.hid hw
  clear hw
  go_enter Try.func77, Try.ntmps77
  go_wp2
  go_quiet (fail)
  go_wp2
  go_ret
  exact ⟨by rw [HV.out]; rfl, by rw [← HW.out]; exact ⟨_, World.drewN_drewN _ _ _⟩⟩

theorem rr_13 (x : UInt32) (w : World) (q : Nat) : Calls Try.prog 77 #[.int .u32 (x.toNat : Int), .int .i64 13] (w.drewN q) fun e w' => e = .returned (.int .u32 ((ror32 x 13).toNat : Int)) ∧ ∃ m, w' = w.drewN m := by
  have hv := ror_or x 13 (by omega) (by omega)
  rw [show ((2 : Int) ^ 13) = 8192 from rfl, show ((2 : Int) ^ (32 - 13)) = 524288 from rfl] at hv
  have HV := Lib.hid hv
  clear hv
  generalize hw : w.drewN q = w1
  have HW := Lib.hid hw
  clear hw
  go_enter Try.func77, Try.ntmps77
  go_wp2
  go_quiet (fail)
  go_wp2
  go_ret
  exact ⟨by rw [HV.out]; rfl, by rw [← HW.out]; exact ⟨_, World.drewN_drewN _ _ _⟩⟩

theorem rr_17 (x : UInt32) (w : World) (q : Nat) : Calls Try.prog 77 #[.int .u32 (x.toNat : Int), .int .i64 17] (w.drewN q) fun e w' => e = .returned (.int .u32 ((ror32 x 17).toNat : Int)) ∧ ∃ m, w' = w.drewN m := by
  have hv := ror_or x 17 (by omega) (by omega)
  rw [show ((2 : Int) ^ 17) = 131072 from rfl, show ((2 : Int) ^ (32 - 17)) = 32768 from rfl] at hv
  have HV := Lib.hid hv
  clear hv
  generalize hw : w.drewN q = w1
  have HW := Lib.hid hw
  clear hw
  go_enter Try.func77, Try.ntmps77
  go_wp2
  go_quiet (fail)
  go_wp2
  go_ret
  exact ⟨by rw [HV.out]; rfl, by rw [← HW.out]; exact ⟨_, World.drewN_drewN _ _ _⟩⟩

theorem rr_18 (x : UInt32) (w : World) (q : Nat) : Calls Try.prog 77 #[.int .u32 (x.toNat : Int), .int .i64 18] (w.drewN q) fun e w' => e = .returned (.int .u32 ((ror32 x 18).toNat : Int)) ∧ ∃ m, w' = w.drewN m := by
  have hv := ror_or x 18 (by omega) (by omega)
  rw [show ((2 : Int) ^ 18) = 262144 from rfl, show ((2 : Int) ^ (32 - 18)) = 16384 from rfl] at hv
  have HV := Lib.hid hv
  clear hv
  generalize hw : w.drewN q = w1
  have HW := Lib.hid hw
  clear hw
  go_enter Try.func77, Try.ntmps77
  go_wp2
  go_quiet (fail)
  go_wp2
  go_ret
  exact ⟨by rw [HV.out]; rfl, by rw [← HW.out]; exact ⟨_, World.drewN_drewN _ _ _⟩⟩

theorem rr_19 (x : UInt32) (w : World) (q : Nat) : Calls Try.prog 77 #[.int .u32 (x.toNat : Int), .int .i64 19] (w.drewN q) fun e w' => e = .returned (.int .u32 ((ror32 x 19).toNat : Int)) ∧ ∃ m, w' = w.drewN m := by
  have hv := ror_or x 19 (by omega) (by omega)
  rw [show ((2 : Int) ^ 19) = 524288 from rfl, show ((2 : Int) ^ (32 - 19)) = 8192 from rfl] at hv
  have HV := Lib.hid hv
  clear hv
  generalize hw : w.drewN q = w1
  have HW := Lib.hid hw
  clear hw
  go_enter Try.func77, Try.ntmps77
  go_wp2
  go_quiet (fail)
  go_wp2
  go_ret
  exact ⟨by rw [HV.out]; rfl, by rw [← HW.out]; exact ⟨_, World.drewN_drewN _ _ _⟩⟩

theorem rr_22 (x : UInt32) (w : World) (q : Nat) : Calls Try.prog 77 #[.int .u32 (x.toNat : Int), .int .i64 22] (w.drewN q) fun e w' => e = .returned (.int .u32 ((ror32 x 22).toNat : Int)) ∧ ∃ m, w' = w.drewN m := by
  have hv := ror_or x 22 (by omega) (by omega)
  rw [show ((2 : Int) ^ 22) = 4194304 from rfl, show ((2 : Int) ^ (32 - 22)) = 1024 from rfl] at hv
  have HV := Lib.hid hv
  clear hv
  generalize hw : w.drewN q = w1
  have HW := Lib.hid hw
  clear hw
  go_enter Try.func77, Try.ntmps77
  go_wp2
  go_quiet (fail)
  go_wp2
  go_ret
  exact ⟨by rw [HV.out]; rfl, by rw [← HW.out]; exact ⟨_, World.drewN_drewN _ _ _⟩⟩

theorem rr_25 (x : UInt32) (w : World) (q : Nat) : Calls Try.prog 77 #[.int .u32 (x.toNat : Int), .int .i64 25] (w.drewN q) fun e w' => e = .returned (.int .u32 ((ror32 x 25).toNat : Int)) ∧ ∃ m, w' = w.drewN m := by
  have hv := ror_or x 25 (by omega) (by omega)
  rw [show ((2 : Int) ^ 25) = 33554432 from rfl, show ((2 : Int) ^ (32 - 25)) = 128 from rfl] at hv
  have HV := Lib.hid hv
  clear hv
  generalize hw : w.drewN q = w1
  have HW := Lib.hid hw
  clear hw
  go_enter Try.func77, Try.ntmps77
  go_wp2
  go_quiet (fail)
  go_wp2
  go_ret
  exact ⟨by rw [HV.out]; rfl, by rw [← HW.out]; exact ⟨_, World.drewN_drewN _ _ _⟩⟩

set_option maxHeartbeats 1000000 in
theorem refTable_s (w : World) : Calls Try.prog 76 #[] w fun e w' => e = .returned (.agg (kTab2.map u32v).toArray) ∧ Below w.heap.size w w' := by
  go_enter Try.func76, Try.ntmps76
  go_upto_region 1 with fail
  refine absorb_wp (St.start_lay w [] |>.allocAt 0 rfl w.heap.size rfl _ _ |>.push_mk rfl) ?_
  intro w3 H3
  generalize w.heap.size = g1 at H3 ⊢
  replace H3 : St w [] w3 (lay [.blk g1 103 (List.replicate 64 (.int .u32 0))]) := H3
  have ht : w3.there g1 0 kTabV.toArray.size := by have := H3.there 0 rfl; rw [List.length_replicate] at this; exact this
  have h1 : kTabV.toArray.all (·.oneCell') = true := all_oneCell_toArray (by rw [← kTabV_eq]; exact u32_one _)
  go_wp2_with (with_reducible refine hold_store 103 (.tmp 0) (.tmp 1) (by rfl) ?_)
  refine Lib.hid ?_
  refine wpList_store_mid rfl 103 (.tmp 0) (.tmp 1) rfl g1 0 kTabV.toArray rfl rfl ht (by rw [tab_size]; rfl) h1 ?_
  have H4 := (H3.storeAll 0 rfl (vs := kTabV) rfl).upd_mk (by simp)
  show wpList Try.prog _ _ [] _ (w3.setCells g1 0 kTabV)
  go_wp2
  exact bodyPost_ret (results_cell_row rfl _ _ g1 103 kTabV.toArray _ _ rfl (H4.blk 0 rfl) Try.underlying103 rfl (by rw [tab_size]; rfl)) rfl ⟨by rw [kTabV_eq], H4.below⟩

def hBegV : List Value := [.int .u32 1779033703, .int .u32 3144134277, .int .u32 1013904242, .int .u32 2773480762, .int .u32 1359893119, .int .u32 2600822924, .int .u32 528734635, .int .u32 1541459225]
theorem hBegV_eq : hBeg2.map u32v = hBegV := by kernel_rfl

set_option maxHeartbeats 1000000 in
theorem refBegin_s (w : World) : Calls Try.prog 71 #[] w fun e w' => e = .returned (.agg (hBeg2.map u32v).toArray) ∧ Below w.heap.size w w' := by
  go_enter Try.func71, Try.ntmps71
  go_upto_region 1 with fail
  refine absorb_wp (St.start_lay w [] |>.allocAt 0 rfl w.heap.size rfl _ _ |>.push_mk rfl) ?_
  intro w3 H3
  generalize w.heap.size = g1 at H3 ⊢
  replace H3 : St w [] w3 (lay [.blk g1 40 (List.replicate 8 (.int .u32 0))]) := H3
  have ht : w3.there g1 0 hBegV.toArray.size := by have := H3.there 0 rfl; rw [List.length_replicate] at this; exact this
  have h1 : hBegV.toArray.all (·.oneCell') = true := all_oneCell_toArray (by rw [← hBegV_eq]; exact u32_one _)
  go_wp2_with (with_reducible refine hold_store 40 (.tmp 0) (.tmp 1) (by rfl) ?_)
  refine Lib.hid ?_
  refine wpList_store_mid rfl 40 (.tmp 0) (.tmp 1) rfl g1 0 hBegV.toArray rfl rfl ht (by rw [h8size]; rfl) h1 ?_
  have H4 := (H3.storeAll 0 rfl (vs := hBegV) rfl).upd_mk (by simp)
  show wpList Try.prog _ _ [] _ (w3.setCells g1 0 hBegV)
  go_wp2
  exact bodyPost_ret (results_cell_row rfl _ _ g1 40 hBegV.toArray _ _ rfl (H4.blk 0 rfl) Try.underlying40 rfl (by rw [h8size]; rfl)) rfl ⟨by rw [hBegV_eq], H4.below⟩
end Go.Proofs.Ytcnphkmcgefjoaa

namespace Go.Proofs.Ytcnphkmcgefjoaa
open Go.RowKit
set_option linter.unusedVariables false
set_option maxRecDepth 100000

attribute [local irreducible] comp2 hTo

theorem beL_take (n x k : Nat) (hk : k < n) : (beL n x).take (k + 1) = (beL n x).take k ++ [UInt8.ofNat (x / 256 ^ (n - 1 - k))] := by
  rw [List.take_add_one, beL_get hk]; rfl

set_option maxHeartbeats 4000000 in
theorem refLaid_s (h : List UInt32) (hh : h.length = 8) (w : World) :
    Calls Try.prog 59 #[.agg (h.map u32v).toArray] w fun e w' => ∃ v, e = .returned v ∧ OwnB w' w.heap.size v (laid4 h 8) ∧ Below w.heap.size w w' := by
  obtain ⟨i0, hi0, hz0, hz1, hz2⟩ := info_parts u8_info
  have HI := Lib.hid (⟨hi0, hz0, hz1, hz2⟩ : _ ∧ _ ∧ _ ∧ _)
  clear hi0 hz0 hz1 hz2
  have HH := Lib.hid hh
  clear hh
  have H := (St.start_lay w []).nilRow 0 rfl 5 1 |>.push_mk rfl
  go_enter Try.func59, Try.ntmps59
  go_upto_region 1 with fail
  refine absorb_wp (H.allocAt 1 rfl w.heap.size rfl _ _ |>.push_mk rfl) ?_
  clear H
  intro w1 H
  generalize w.heap.size = gb at H ⊢
  replace H : St w [] w1 (lay [.row 5 1 (.slice none 0 0) 0 [], .blk gb 40 (h.map u32v)]) := H
  go_wp2
  go_loopw [3, 4] (fun v i wr => ∃ k : Nat, k ≤ 8 ∧ i = .int .i64 k ∧ St w [] wr (lay [.row 5 1 v (4 * k) ((laid4 h k).map vb), .blk gb 40 (h.map u32v)])) (fun _ i _ => 8 - (intOf i).toNat)
  case atStart => exact ⟨0, by omega, rfl, H⟩
  case round =>
    clear H
    obtain ⟨k, hk, rfl, H⟩ := hrel
    by_cases hlt : k < 8
    · have hk1 : (k : Int) < 8 := by omega
      have HA : Hid (∀ w' X, St w [] w' X → X 1 = some (.blk gb 40 (h.map u32v)) → w'.cell? ⟨gb, k, none⟩ = some (.int .u32 ((at32 h k).toNat : Int))) := fun w' X h hX => h.cell 1 hX (u32_get (by rw [HH.out]; exact hlt))
      have HS := Lib.hid (laid4_succ (l := h) (k := k) (by rw [HH.out]; exact hlt))
      generalize at32 h k = x at HS HA
      go_wp2
      go_loopw [3, 5] (fun v i wr => ∃ j : Nat, j ≤ 4 ∧ i = .int .i64 j ∧ St w [] wr (lay [.row 5 1 v (4 * k + j) ((laid4 h k ++ (beL 4 x.toNat).take j).map vb), .blk gb 40 (h.map u32v)])) (fun _ i _ => 4 - (intOf i).toNat)
      case atStart => exact ⟨0, by omega, rfl, by rw [List.take_zero, List.append_nil]; exact H⟩
      case round =>
        clear H
        obtain ⟨j, hj, rfl, H⟩ := hrel
        obtain ⟨AV, cV, rfl, -, -⟩ := row_form (H.row 0 rfl)
        have hj5 : j = 0 ∨ j = 1 ∨ j = 2 ∨ j = 3 ∨ j = 4 := by omega
        rcases hj5 with rfl | rfl | rfl | rfl | rfl
        · rw [show ((0 : Nat) : Int) = 0 from rfl]
          have a0 := HA.out _ _ H rfl
          have hbe : Value.int .u8 ((x.toNat : Int) / 16777216 % 256) = vb (UInt8.ofNat (x.toNat / 256 ^ (4 - 1 - 0))) := by unfold vb; rw [← byte_eq]; simp
          have HT := Lib.hid (beL_take 4 x.toNat 0 (by omega))
          go_wp2_with (at_builtin; refine hold_here' ?_)
          refine Lib.hid ?_
          refine absorb_list (H.allocAt 2 rfl wr.heap.size rfl #[.int .u8 ((x.toNat : Int) / 16777216 % 256)] 5 |>.push_mk rfl) ?_
          clear H a0
          intro w5 H
          generalize wr.heap.size = gN at H ⊢
          obtain ⟨hi0, hz0, hz1, hz2⟩ := HI.out
          refine wpList_append_any _ rfl (.tmp 14) (.tmp 23) _ rfl 0 5 i0 _ 1 1 Try.underlying22 hi0 hz0 hz1 hz2 rfl (by omega) (.slice AV (4 * k + 0) cV) (4 * k + 0) ((laid4 h k ++ (beL 4 x.toNat).take 0).map vb) rfl (H.row 0 rfl) (some ⟨gN, 0, none⟩) 1 1 [.int .u8 ((x.toNat : Int) / 16777216 % 256)] rfl (H.rdBlk 2 rfl 1 1 rfl) (by intro u hu; simp at hu; subst hu; rfl) (by simp only [maxLen]; omega) (by omega) (by omega) ?_
          intro v6 w6 hown6 hg6 hat6
          replace H := ((H.grow 0 rfl hown6 hg6 hat6).upd_mk (by simp)).front 2
          clear hown6 hg6 hat6 hi0 hz0 hz1 hz2
          have H7 : St w [] w6 (lay [.row 5 1 v6 (4 * k + 1) ((laid4 h k ++ (beL 4 x.toNat).take 1).map vb), .blk gb 40 (h.map u32v)]) := by
            rw [HT.out, ← List.append_assoc, List.map_append, List.map_cons, List.map_nil, ← hbe]; exact H
          clear H hbe
          go_wp2
          go_roundw
          case rel => exact ⟨1, by omega, by first | rfl | go_num, H7⟩
          case measure => simp [intOf]
        · rw [show ((1 : Nat) : Int) = 1 from rfl]
          have a0 := HA.out _ _ H rfl
          have hbe : Value.int .u8 ((x.toNat : Int) / 65536 % 256) = vb (UInt8.ofNat (x.toNat / 256 ^ (4 - 1 - 1))) := by unfold vb; rw [← byte_eq]; simp
          have HT := Lib.hid (beL_take 4 x.toNat 1 (by omega))
          go_wp2_with (at_builtin; refine hold_here' ?_)
          refine Lib.hid ?_
          refine absorb_list (H.allocAt 2 rfl wr.heap.size rfl #[.int .u8 ((x.toNat : Int) / 65536 % 256)] 5 |>.push_mk rfl) ?_
          clear H a0
          intro w5 H
          generalize wr.heap.size = gN at H ⊢
          obtain ⟨hi0, hz0, hz1, hz2⟩ := HI.out
          refine wpList_append_any _ rfl (.tmp 14) (.tmp 23) _ rfl 0 5 i0 _ 1 1 Try.underlying22 hi0 hz0 hz1 hz2 rfl (by omega) (.slice AV (4 * k + 1) cV) (4 * k + 1) ((laid4 h k ++ (beL 4 x.toNat).take 1).map vb) rfl (H.row 0 rfl) (some ⟨gN, 0, none⟩) 1 1 [.int .u8 ((x.toNat : Int) / 65536 % 256)] rfl (H.rdBlk 2 rfl 1 1 rfl) (by intro u hu; simp at hu; subst hu; rfl) (by simp only [maxLen]; omega) (by omega) (by omega) ?_
          intro v6 w6 hown6 hg6 hat6
          replace H := ((H.grow 0 rfl hown6 hg6 hat6).upd_mk (by simp)).front 2
          clear hown6 hg6 hat6 hi0 hz0 hz1 hz2
          have H7 : St w [] w6 (lay [.row 5 1 v6 (4 * k + 2) ((laid4 h k ++ (beL 4 x.toNat).take 2).map vb), .blk gb 40 (h.map u32v)]) := by
            rw [HT.out, ← List.append_assoc, List.map_append, List.map_cons, List.map_nil, ← hbe]; exact H
          clear H hbe
          go_wp2
          go_roundw
          case rel => exact ⟨2, by omega, by first | rfl | go_num, H7⟩
          case measure => simp [intOf]
        · rw [show ((2 : Nat) : Int) = 2 from rfl]
          have a0 := HA.out _ _ H rfl
          have hbe : Value.int .u8 ((x.toNat : Int) / 256 % 256) = vb (UInt8.ofNat (x.toNat / 256 ^ (4 - 1 - 2))) := by unfold vb; rw [← byte_eq]; simp
          have HT := Lib.hid (beL_take 4 x.toNat 2 (by omega))
          go_wp2_with (at_builtin; refine hold_here' ?_)
          refine Lib.hid ?_
          refine absorb_list (H.allocAt 2 rfl wr.heap.size rfl #[.int .u8 ((x.toNat : Int) / 256 % 256)] 5 |>.push_mk rfl) ?_
          clear H a0
          intro w5 H
          generalize wr.heap.size = gN at H ⊢
          obtain ⟨hi0, hz0, hz1, hz2⟩ := HI.out
          refine wpList_append_any _ rfl (.tmp 14) (.tmp 23) _ rfl 0 5 i0 _ 1 1 Try.underlying22 hi0 hz0 hz1 hz2 rfl (by omega) (.slice AV (4 * k + 2) cV) (4 * k + 2) ((laid4 h k ++ (beL 4 x.toNat).take 2).map vb) rfl (H.row 0 rfl) (some ⟨gN, 0, none⟩) 1 1 [.int .u8 ((x.toNat : Int) / 256 % 256)] rfl (H.rdBlk 2 rfl 1 1 rfl) (by intro u hu; simp at hu; subst hu; rfl) (by simp only [maxLen]; omega) (by omega) (by omega) ?_
          intro v6 w6 hown6 hg6 hat6
          replace H := ((H.grow 0 rfl hown6 hg6 hat6).upd_mk (by simp)).front 2
          clear hown6 hg6 hat6 hi0 hz0 hz1 hz2
          have H7 : St w [] w6 (lay [.row 5 1 v6 (4 * k + 3) ((laid4 h k ++ (beL 4 x.toNat).take 3).map vb), .blk gb 40 (h.map u32v)]) := by
            rw [HT.out, ← List.append_assoc, List.map_append, List.map_cons, List.map_nil, ← hbe]; exact H
          clear H hbe
          go_wp2
          go_roundw
          case rel => exact ⟨3, by omega, by first | rfl | go_num, H7⟩
          case measure => simp [intOf]
        · rw [show ((3 : Nat) : Int) = 3 from rfl]
          have a0 := HA.out _ _ H rfl
          have hbe : Value.int .u8 ((x.toNat : Int) % 256) = vb (UInt8.ofNat (x.toNat / 256 ^ (4 - 1 - 3))) := by unfold vb; rw [← byte_eq]; simp
          have HT := Lib.hid (beL_take 4 x.toNat 3 (by omega))
          go_wp2_with (at_builtin; refine hold_here' ?_)
          refine Lib.hid ?_
          refine absorb_list (H.allocAt 2 rfl wr.heap.size rfl #[.int .u8 ((x.toNat : Int) % 256)] 5 |>.push_mk rfl) ?_
          clear H a0
          intro w5 H
          generalize wr.heap.size = gN at H ⊢
          obtain ⟨hi0, hz0, hz1, hz2⟩ := HI.out
          refine wpList_append_any _ rfl (.tmp 14) (.tmp 23) _ rfl 0 5 i0 _ 1 1 Try.underlying22 hi0 hz0 hz1 hz2 rfl (by omega) (.slice AV (4 * k + 3) cV) (4 * k + 3) ((laid4 h k ++ (beL 4 x.toNat).take 3).map vb) rfl (H.row 0 rfl) (some ⟨gN, 0, none⟩) 1 1 [.int .u8 ((x.toNat : Int) % 256)] rfl (H.rdBlk 2 rfl 1 1 rfl) (by intro u hu; simp at hu; subst hu; rfl) (by simp only [maxLen]; omega) (by omega) (by omega) ?_
          intro v6 w6 hown6 hg6 hat6
          replace H := ((H.grow 0 rfl hown6 hg6 hat6).upd_mk (by simp)).front 2
          clear hown6 hg6 hat6 hi0 hz0 hz1 hz2
          have H7 : St w [] w6 (lay [.row 5 1 v6 (4 * k + 4) ((laid4 h k ++ (beL 4 x.toNat).take 4).map vb), .blk gb 40 (h.map u32v)]) := by
            rw [HT.out, ← List.append_assoc, List.map_append, List.map_cons, List.map_nil, ← hbe]; exact H
          clear H hbe
          go_wp2
          go_roundw
          case rel => exact ⟨4, by omega, by first | rfl | go_num, H7⟩
          case measure => simp [intOf]
        · rw [show ((4 : Nat) : Int) = 4 from rfl]
          rw [List.take_of_length_le (by rw [beL_length]; omega), ← HS.out] at H
          go_wp2
          go_roundw
          case rel => exact ⟨k + 1, by omega, by go_num, H⟩
          case measure => simp [intOf]; omega
    · obtain rfl : k = 8 := by omega
      go_wp2
      go_ret
      exact ⟨_, rfl, (by unfold OwnB; rw [laid4_length (by rw [HH.out]; omega)]; exact H.newRow' 0 rfl), H.below⟩

theorem padZ_key (n t : Nat) (ht : t ≤ padZ n) : (n + 1 + t) % 64 = 56 ↔ t = padZ n := by
  unfold padZ at *
  omega

set_option maxHeartbeats 8000000 in
theorem refPadded_s (A : Option Addr) (n c : Nat) (p : List UInt8) (w : World) (hA : Rd w 1 A n (p.map vb)) (hn : n ≤ 100000000000) :
    Calls Try.prog 42 #[.slice A n c] w fun e w' => ∃ v, e = .returned v ∧ OwnB w' w.heap.size v (p ++ padM n) ∧ Below w.heap.size w w' := by
  have hl : p.length = n := by simpa using hA.1
  have HL := Lib.hid hl
  clear hl
  obtain ⟨i0, hi0, hz0, hz1, hz2⟩ := info_parts u8_info
  have HI := Lib.hid (⟨hi0, hz0, hz1, hz2⟩ : _ ∧ _ ∧ _ ∧ _)
  have H := (St.start_lay w []).nilRow 0 rfl 5 1 |>.push_mk rfl
  have hZb : padZ n ≤ 63 := by unfold padZ; omega
  go_enter Try.func42, Try.ntmps42
  go_wp2_with (at_builtin; refine hold_here' ?_)
  refine Lib.hid ?_
  refine wpList_append_any _ rfl (.tmp 6) (.tmp 7) _ rfl 0 5 i0 _ 1 1 Try.underlying22 hi0 hz0 hz1 hz2 rfl (by omega) (.slice none 0 0) 0 [] rfl (H.row 0 rfl) A n c (p.map vb) rfl (H.arg0 hA) (vb_one _) (by simp only [maxLen]; omega) (by omega) (by omega) ?_
  intro v6 w6 hown6 hg6 hat6
  replace H := ((H.grow 0 rfl hown6 hg6 hat6).upd_mk (by simp))
  clear hown6 hg6 hat6
  replace H : St w [] w6 (lay [.row 5 1 v6 n (p.map vb)]) := by rw [Nat.zero_add, List.nil_append] at H; exact H
  obtain ⟨AV, cV, rfl, -, -⟩ := row_form (H.row 0 rfl)
  go_wp2_with (at_builtin; refine hold_here' ?_)
  refine Lib.hid ?_
  refine absorb_list (H.allocAt 1 rfl w6.heap.size rfl #[.int .u8 128] 5 |>.push_mk rfl) ?_
  clear H
  intro w7 H
  generalize w6.heap.size = gN at H ⊢
  refine wpList_append_any _ rfl (.tmp 9) (.tmp 10) _ rfl 0 5 i0 _ 1 1 Try.underlying22 hi0 hz0 hz1 hz2 rfl (by omega) (.slice AV n cV) n (p.map vb) rfl (H.row 0 rfl) (some ⟨gN, 0, none⟩) 1 1 [.int .u8 128] rfl (H.rdBlk 1 rfl 1 1 rfl) (by intro u hu; simp at hu; subst hu; rfl) (by simp only [maxLen]; omega) (by omega) (by omega) ?_
  intro v8 w8 hown6 hg6 hat6
  replace H := ((H.grow 0 rfl hown6 hg6 hat6).upd_mk (by simp)).front 1
  clear hown6 hg6 hat6 hi0 hz0 hz1 hz2 hA
  replace H : St w [] w8 (lay [.row 5 1 v8 (n + 1) ((p ++ [128]).map vb)]) := by rw [List.map_append]; exact H
  go_wp2
  go_loopw [3] (fun v wr => ∃ t : Nat, t ≤ padZ n ∧ St w [] wr (lay [.row 5 1 v (n + 1 + t) ((p ++ 128 :: List.replicate t 0).map vb)]) ) (fun v _ => match v with | .slice _ k _ => 100000000100 - k | _ => 0)
  case atStart => exact ⟨0, Nat.zero_le _, H⟩
  case round =>
    clear H
    obtain ⟨t, ht, H⟩ := hrel
    obtain ⟨AV, cV, rfl, -, -⟩ := row_form (H.row 0 rfl)
    have hkey := padZ_key n t ht
    by_cases hz : t = padZ n
    · have e1 : (((n + 1 + t : Nat) : Int) % 64 != 56) = false := by have := hkey.2 hz; simp; omega
      have HP : Hid (p ++ 128 :: List.replicate t 0 ++ beL 8 (8 * n) = p ++ padM n) := by
        unfold Hid padM; rw [← hz]; simp
      obtain ⟨Y, hY⟩ : ∃ Y, p ++ 128 :: List.replicate t 0 = Y := ⟨_, rfl⟩
      have hYl : Y.length = n + 1 + t := by rw [← hY, List.length_append, HL.out, List.length_cons, List.length_replicate]; omega
      have htb : t ≤ 63 := by omega
      rw [hY] at H HP
      obtain ⟨N, hN⟩ : ∃ N, n + 1 + t = N := ⟨_, rfl⟩
      have hNb : N ≤ 100000000065 := by omega
      rw [hN] at H e1 hYl ⊢
      have HYL := Lib.hid hYl
      clear hkey hz hY ht hYl hN
      go_upto_region 7 with fail
      rw [show (8 * (n : Int)) = ((8 * n : Nat) : Int) by omega]
      obtain ⟨x, hx⟩ : ∃ x, 8 * n = x := ⟨_, rfl⟩
      rw [hx] at HP ⊢
      clear hx e1
      go_wp2
      go_loopw [3, 5] (fun v i wr => ∃ j : Nat, j ≤ 8 ∧ i = .int .i64 j ∧ St w [] wr (lay [.row 5 1 v (N + j) ((Y ++ (beL 8 x).take j).map vb)])) (fun _ i _ => 8 - (intOf i).toNat)
      case atStart => exact ⟨0, by omega, rfl, by rw [List.take_zero, List.append_nil]; exact H⟩
      case round =>
        clear H
        obtain ⟨j, hj, rfl, H⟩ := hrel
        obtain ⟨AV, cV, rfl, -, -⟩ := row_form (H.row 0 rfl)
        have hj9 : j = 0 ∨ j = 1 ∨ j = 2 ∨ j = 3 ∨ j = 4 ∨ j = 5 ∨ j = 6 ∨ j = 7 ∨ j = 8 := by omega
        rcases hj9 with rfl | rfl | rfl | rfl | rfl | rfl | rfl | rfl | rfl
        · rw [show ((0 : Nat) : Int) = 0 from rfl]
          have hbe : Value.int .u8 ((x : Int) / 72057594037927936 % 256) = vb (UInt8.ofNat (x / 256 ^ (8 - 1 - 0))) := by unfold vb; rw [← byte_eq]; simp
          have HT := Lib.hid (beL_take 8 x 0 (by omega))
          go_wp2_with (at_builtin; refine hold_here' ?_)
          refine Lib.hid ?_
          refine absorb_list (H.allocAt 1 rfl wr.heap.size rfl #[.int .u8 ((x : Int) / 72057594037927936 % 256)] 5 |>.push_mk rfl) ?_
          clear H
          intro w5 H
          generalize wr.heap.size = gN at H ⊢
          obtain ⟨hi0, hz0, hz1, hz2⟩ := HI.out
          refine wpList_append_any _ rfl (.tmp 27) (.tmp 34) _ rfl 0 5 i0 _ 1 1 Try.underlying22 hi0 hz0 hz1 hz2 rfl (by omega) (.slice AV (N + 0) cV) (N + 0) ((Y ++ (beL 8 x).take 0).map vb) rfl (H.row 0 rfl) (some ⟨gN, 0, none⟩) 1 1 [.int .u8 ((x : Int) / 72057594037927936 % 256)] rfl (H.rdBlk 1 rfl 1 1 rfl) (by intro u hu; simp at hu; subst hu; rfl) (by simp only [maxLen]; omega) (by omega) (by omega) ?_
          intro v6 w6 hown6 hg6 hat6
          replace H := ((H.grow 0 rfl hown6 hg6 hat6).upd_mk (by simp)).front 1
          clear hown6 hg6 hat6 hi0 hz0 hz1 hz2
          have H7 : St w [] w6 (lay [.row 5 1 v6 (N + 1) ((Y ++ (beL 8 x).take 1).map vb)]) := by
            rw [HT.out, ← List.append_assoc, List.map_append, List.map_cons, List.map_nil, ← hbe]; exact H
          clear H hbe
          go_wp2
          go_roundw
          case rel => exact ⟨1, by omega, by first | rfl | go_num, H7⟩
          case measure => simp [intOf]
        · rw [show ((1 : Nat) : Int) = 1 from rfl]
          have hbe : Value.int .u8 ((x : Int) / 281474976710656 % 256) = vb (UInt8.ofNat (x / 256 ^ (8 - 1 - 1))) := by unfold vb; rw [← byte_eq]; simp
          have HT := Lib.hid (beL_take 8 x 1 (by omega))
          go_wp2_with (at_builtin; refine hold_here' ?_)
          refine Lib.hid ?_
          refine absorb_list (H.allocAt 1 rfl wr.heap.size rfl #[.int .u8 ((x : Int) / 281474976710656 % 256)] 5 |>.push_mk rfl) ?_
          clear H
          intro w5 H
          generalize wr.heap.size = gN at H ⊢
          obtain ⟨hi0, hz0, hz1, hz2⟩ := HI.out
          refine wpList_append_any _ rfl (.tmp 27) (.tmp 34) _ rfl 0 5 i0 _ 1 1 Try.underlying22 hi0 hz0 hz1 hz2 rfl (by omega) (.slice AV (N + 1) cV) (N + 1) ((Y ++ (beL 8 x).take 1).map vb) rfl (H.row 0 rfl) (some ⟨gN, 0, none⟩) 1 1 [.int .u8 ((x : Int) / 281474976710656 % 256)] rfl (H.rdBlk 1 rfl 1 1 rfl) (by intro u hu; simp at hu; subst hu; rfl) (by simp only [maxLen]; omega) (by omega) (by omega) ?_
          intro v6 w6 hown6 hg6 hat6
          replace H := ((H.grow 0 rfl hown6 hg6 hat6).upd_mk (by simp)).front 1
          clear hown6 hg6 hat6 hi0 hz0 hz1 hz2
          have H7 : St w [] w6 (lay [.row 5 1 v6 (N + 2) ((Y ++ (beL 8 x).take 2).map vb)]) := by
            rw [HT.out, ← List.append_assoc, List.map_append, List.map_cons, List.map_nil, ← hbe]; exact H
          clear H hbe
          go_wp2
          go_roundw
          case rel => exact ⟨2, by omega, by first | rfl | go_num, H7⟩
          case measure => simp [intOf]
        · rw [show ((2 : Nat) : Int) = 2 from rfl]
          have hbe : Value.int .u8 ((x : Int) / 1099511627776 % 256) = vb (UInt8.ofNat (x / 256 ^ (8 - 1 - 2))) := by unfold vb; rw [← byte_eq]; simp
          have HT := Lib.hid (beL_take 8 x 2 (by omega))
          go_wp2_with (at_builtin; refine hold_here' ?_)
          refine Lib.hid ?_
          refine absorb_list (H.allocAt 1 rfl wr.heap.size rfl #[.int .u8 ((x : Int) / 1099511627776 % 256)] 5 |>.push_mk rfl) ?_
          clear H
          intro w5 H
          generalize wr.heap.size = gN at H ⊢
          obtain ⟨hi0, hz0, hz1, hz2⟩ := HI.out
          refine wpList_append_any _ rfl (.tmp 27) (.tmp 34) _ rfl 0 5 i0 _ 1 1 Try.underlying22 hi0 hz0 hz1 hz2 rfl (by omega) (.slice AV (N + 2) cV) (N + 2) ((Y ++ (beL 8 x).take 2).map vb) rfl (H.row 0 rfl) (some ⟨gN, 0, none⟩) 1 1 [.int .u8 ((x : Int) / 1099511627776 % 256)] rfl (H.rdBlk 1 rfl 1 1 rfl) (by intro u hu; simp at hu; subst hu; rfl) (by simp only [maxLen]; omega) (by omega) (by omega) ?_
          intro v6 w6 hown6 hg6 hat6
          replace H := ((H.grow 0 rfl hown6 hg6 hat6).upd_mk (by simp)).front 1
          clear hown6 hg6 hat6 hi0 hz0 hz1 hz2
          have H7 : St w [] w6 (lay [.row 5 1 v6 (N + 3) ((Y ++ (beL 8 x).take 3).map vb)]) := by
            rw [HT.out, ← List.append_assoc, List.map_append, List.map_cons, List.map_nil, ← hbe]; exact H
          clear H hbe
          go_wp2
          go_roundw
          case rel => exact ⟨3, by omega, by first | rfl | go_num, H7⟩
          case measure => simp [intOf]
        · rw [show ((3 : Nat) : Int) = 3 from rfl]
          have hbe : Value.int .u8 ((x : Int) / 4294967296 % 256) = vb (UInt8.ofNat (x / 256 ^ (8 - 1 - 3))) := by unfold vb; rw [← byte_eq]; simp
          have HT := Lib.hid (beL_take 8 x 3 (by omega))
          go_wp2_with (at_builtin; refine hold_here' ?_)
          refine Lib.hid ?_
          refine absorb_list (H.allocAt 1 rfl wr.heap.size rfl #[.int .u8 ((x : Int) / 4294967296 % 256)] 5 |>.push_mk rfl) ?_
          clear H
          intro w5 H
          generalize wr.heap.size = gN at H ⊢
          obtain ⟨hi0, hz0, hz1, hz2⟩ := HI.out
          refine wpList_append_any _ rfl (.tmp 27) (.tmp 34) _ rfl 0 5 i0 _ 1 1 Try.underlying22 hi0 hz0 hz1 hz2 rfl (by omega) (.slice AV (N + 3) cV) (N + 3) ((Y ++ (beL 8 x).take 3).map vb) rfl (H.row 0 rfl) (some ⟨gN, 0, none⟩) 1 1 [.int .u8 ((x : Int) / 4294967296 % 256)] rfl (H.rdBlk 1 rfl 1 1 rfl) (by intro u hu; simp at hu; subst hu; rfl) (by simp only [maxLen]; omega) (by omega) (by omega) ?_
          intro v6 w6 hown6 hg6 hat6
          replace H := ((H.grow 0 rfl hown6 hg6 hat6).upd_mk (by simp)).front 1
          clear hown6 hg6 hat6 hi0 hz0 hz1 hz2
          have H7 : St w [] w6 (lay [.row 5 1 v6 (N + 4) ((Y ++ (beL 8 x).take 4).map vb)]) := by
            rw [HT.out, ← List.append_assoc, List.map_append, List.map_cons, List.map_nil, ← hbe]; exact H
          clear H hbe
          go_wp2
          go_roundw
          case rel => exact ⟨4, by omega, by first | rfl | go_num, H7⟩
          case measure => simp [intOf]
        · rw [show ((4 : Nat) : Int) = 4 from rfl]
          have hbe : Value.int .u8 ((x : Int) / 16777216 % 256) = vb (UInt8.ofNat (x / 256 ^ (8 - 1 - 4))) := by unfold vb; rw [← byte_eq]; simp
          have HT := Lib.hid (beL_take 8 x 4 (by omega))
          go_wp2_with (at_builtin; refine hold_here' ?_)
          refine Lib.hid ?_
          refine absorb_list (H.allocAt 1 rfl wr.heap.size rfl #[.int .u8 ((x : Int) / 16777216 % 256)] 5 |>.push_mk rfl) ?_
          clear H
          intro w5 H
          generalize wr.heap.size = gN at H ⊢
          obtain ⟨hi0, hz0, hz1, hz2⟩ := HI.out
          refine wpList_append_any _ rfl (.tmp 27) (.tmp 34) _ rfl 0 5 i0 _ 1 1 Try.underlying22 hi0 hz0 hz1 hz2 rfl (by omega) (.slice AV (N + 4) cV) (N + 4) ((Y ++ (beL 8 x).take 4).map vb) rfl (H.row 0 rfl) (some ⟨gN, 0, none⟩) 1 1 [.int .u8 ((x : Int) / 16777216 % 256)] rfl (H.rdBlk 1 rfl 1 1 rfl) (by intro u hu; simp at hu; subst hu; rfl) (by simp only [maxLen]; omega) (by omega) (by omega) ?_
          intro v6 w6 hown6 hg6 hat6
          replace H := ((H.grow 0 rfl hown6 hg6 hat6).upd_mk (by simp)).front 1
          clear hown6 hg6 hat6 hi0 hz0 hz1 hz2
          have H7 : St w [] w6 (lay [.row 5 1 v6 (N + 5) ((Y ++ (beL 8 x).take 5).map vb)]) := by
            rw [HT.out, ← List.append_assoc, List.map_append, List.map_cons, List.map_nil, ← hbe]; exact H
          clear H hbe
          go_wp2
          go_roundw
          case rel => exact ⟨5, by omega, by first | rfl | go_num, H7⟩
          case measure => simp [intOf]
        · rw [show ((5 : Nat) : Int) = 5 from rfl]
          have hbe : Value.int .u8 ((x : Int) / 65536 % 256) = vb (UInt8.ofNat (x / 256 ^ (8 - 1 - 5))) := by unfold vb; rw [← byte_eq]; simp
          have HT := Lib.hid (beL_take 8 x 5 (by omega))
          go_wp2_with (at_builtin; refine hold_here' ?_)
          refine Lib.hid ?_
          refine absorb_list (H.allocAt 1 rfl wr.heap.size rfl #[.int .u8 ((x : Int) / 65536 % 256)] 5 |>.push_mk rfl) ?_
          clear H
          intro w5 H
          generalize wr.heap.size = gN at H ⊢
          obtain ⟨hi0, hz0, hz1, hz2⟩ := HI.out
          refine wpList_append_any _ rfl (.tmp 27) (.tmp 34) _ rfl 0 5 i0 _ 1 1 Try.underlying22 hi0 hz0 hz1 hz2 rfl (by omega) (.slice AV (N + 5) cV) (N + 5) ((Y ++ (beL 8 x).take 5).map vb) rfl (H.row 0 rfl) (some ⟨gN, 0, none⟩) 1 1 [.int .u8 ((x : Int) / 65536 % 256)] rfl (H.rdBlk 1 rfl 1 1 rfl) (by intro u hu; simp at hu; subst hu; rfl) (by simp only [maxLen]; omega) (by omega) (by omega) ?_
          intro v6 w6 hown6 hg6 hat6
          replace H := ((H.grow 0 rfl hown6 hg6 hat6).upd_mk (by simp)).front 1
          clear hown6 hg6 hat6 hi0 hz0 hz1 hz2
          have H7 : St w [] w6 (lay [.row 5 1 v6 (N + 6) ((Y ++ (beL 8 x).take 6).map vb)]) := by
            rw [HT.out, ← List.append_assoc, List.map_append, List.map_cons, List.map_nil, ← hbe]; exact H
          clear H hbe
          go_wp2
          go_roundw
          case rel => exact ⟨6, by omega, by first | rfl | go_num, H7⟩
          case measure => simp [intOf]
        · rw [show ((6 : Nat) : Int) = 6 from rfl]
          have hbe : Value.int .u8 ((x : Int) / 256 % 256) = vb (UInt8.ofNat (x / 256 ^ (8 - 1 - 6))) := by unfold vb; rw [← byte_eq]; simp
          have HT := Lib.hid (beL_take 8 x 6 (by omega))
          go_wp2_with (at_builtin; refine hold_here' ?_)
          refine Lib.hid ?_
          refine absorb_list (H.allocAt 1 rfl wr.heap.size rfl #[.int .u8 ((x : Int) / 256 % 256)] 5 |>.push_mk rfl) ?_
          clear H
          intro w5 H
          generalize wr.heap.size = gN at H ⊢
          obtain ⟨hi0, hz0, hz1, hz2⟩ := HI.out
          refine wpList_append_any _ rfl (.tmp 27) (.tmp 34) _ rfl 0 5 i0 _ 1 1 Try.underlying22 hi0 hz0 hz1 hz2 rfl (by omega) (.slice AV (N + 6) cV) (N + 6) ((Y ++ (beL 8 x).take 6).map vb) rfl (H.row 0 rfl) (some ⟨gN, 0, none⟩) 1 1 [.int .u8 ((x : Int) / 256 % 256)] rfl (H.rdBlk 1 rfl 1 1 rfl) (by intro u hu; simp at hu; subst hu; rfl) (by simp only [maxLen]; omega) (by omega) (by omega) ?_
          intro v6 w6 hown6 hg6 hat6
          replace H := ((H.grow 0 rfl hown6 hg6 hat6).upd_mk (by simp)).front 1
          clear hown6 hg6 hat6 hi0 hz0 hz1 hz2
          have H7 : St w [] w6 (lay [.row 5 1 v6 (N + 7) ((Y ++ (beL 8 x).take 7).map vb)]) := by
            rw [HT.out, ← List.append_assoc, List.map_append, List.map_cons, List.map_nil, ← hbe]; exact H
          clear H hbe
          go_wp2
          go_roundw
          case rel => exact ⟨7, by omega, by first | rfl | go_num, H7⟩
          case measure => simp [intOf]
        · rw [show ((7 : Nat) : Int) = 7 from rfl]
          have hbe : Value.int .u8 ((x : Int) % 256) = vb (UInt8.ofNat (x / 256 ^ (8 - 1 - 7))) := by unfold vb; rw [← byte_eq]; simp
          have HT := Lib.hid (beL_take 8 x 7 (by omega))
          go_wp2_with (at_builtin; refine hold_here' ?_)
          refine Lib.hid ?_
          refine absorb_list (H.allocAt 1 rfl wr.heap.size rfl #[.int .u8 ((x : Int) % 256)] 5 |>.push_mk rfl) ?_
          clear H
          intro w5 H
          generalize wr.heap.size = gN at H ⊢
          obtain ⟨hi0, hz0, hz1, hz2⟩ := HI.out
          refine wpList_append_any _ rfl (.tmp 27) (.tmp 34) _ rfl 0 5 i0 _ 1 1 Try.underlying22 hi0 hz0 hz1 hz2 rfl (by omega) (.slice AV (N + 7) cV) (N + 7) ((Y ++ (beL 8 x).take 7).map vb) rfl (H.row 0 rfl) (some ⟨gN, 0, none⟩) 1 1 [.int .u8 ((x : Int) % 256)] rfl (H.rdBlk 1 rfl 1 1 rfl) (by intro u hu; simp at hu; subst hu; rfl) (by simp only [maxLen]; omega) (by omega) (by omega) ?_
          intro v6 w6 hown6 hg6 hat6
          replace H := ((H.grow 0 rfl hown6 hg6 hat6).upd_mk (by simp)).front 1
          clear hown6 hg6 hat6 hi0 hz0 hz1 hz2
          have H7 : St w [] w6 (lay [.row 5 1 v6 (N + 8) ((Y ++ (beL 8 x).take 8).map vb)]) := by
            rw [HT.out, ← List.append_assoc, List.map_append, List.map_cons, List.map_nil, ← hbe]; exact H
          clear H hbe
          go_wp2
          go_roundw
          case rel => exact ⟨8, by omega, by first | rfl | go_num, H7⟩
          case measure => simp [intOf]
        · rw [show ((8 : Nat) : Int) = 8 from rfl]
          rw [List.take_of_length_le (by rw [beL_length]; omega), HP.out] at H
          have hfin : Hid ((p ++ padM n).length = N + 8) := by unfold Hid; rw [← HP.out, List.length_append, HYL.out, beL_length]
          go_wp2
          go_ret
          exact ⟨_, rfl, (by unfold OwnB; rw [hfin.out]; exact H.newRow' 0 rfl), H.below⟩
    · have e1 : (((n + 1 + t : Nat) : Int) % 64 != 56) = true := by
        have : ¬ (n + 1 + t) % 64 = 56 := fun h => hz (hkey.1 h)
        simp; omega
      have ht2 : t + 1 ≤ padZ n := by omega
      clear hkey hz
      go_wp2_with (at_builtin; refine hold_here' ?_)
      refine Lib.hid ?_
      refine absorb_list (H.allocAt 1 rfl wr.heap.size rfl #[.int .u8 0] 5 |>.push_mk rfl) ?_
      clear H
      intro w5 H
      generalize wr.heap.size = gN at H ⊢
      obtain ⟨hi0, hz0, hz1, hz2⟩ := HI.out
      refine wpList_append_any _ rfl (.tmp 16) (.tmp 17) _ rfl 0 5 i0 _ 1 1 Try.underlying22 hi0 hz0 hz1 hz2 rfl (by omega) (.slice AV (n + 1 + t) cV) (n + 1 + t) ((p ++ 128 :: List.replicate t 0).map vb) rfl (H.row 0 rfl) (some ⟨gN, 0, none⟩) 1 1 [.int .u8 0] rfl (H.rdBlk 1 rfl 1 1 rfl) (by intro u hu; simp at hu; subst hu; rfl) (by simp only [maxLen]; omega) (by omega) (by omega) ?_
      intro v6 w6 hown6 hg6 hat6
      replace H := ((H.grow 0 rfl hown6 hg6 hat6).upd_mk (by simp)).front 1
      clear hown6 hg6 hat6 hi0 hz0 hz1 hz2
      have H7 : St w [] w6 (lay [.row 5 1 v6 (n + 1 + (t + 1)) ((p ++ 128 :: List.replicate (t + 1) 0).map vb)]) := by
        have e : (p ++ 128 :: List.replicate (t + 1) 0).map vb = (p ++ 128 :: List.replicate t 0).map vb ++ [.int .u8 0] := by rw [List.replicate_succ']; simp
        rw [e]; exact H
      obtain ⟨A7, c7, rfl, -, -⟩ := row_form (H7.row 0 rfl)
      clear H
      go_wp2
      go_roundw
      case rel => exact ⟨t + 1, ht2, H7⟩
      case measure => show 100000000100 - (n + 1 + (t + 1)) < 100000000100 - (n + 1 + t); omega
end Go.Proofs.Ytcnphkmcgefjoaa

namespace Go.Proofs.Ytcnphkmcgefjoaa
open Go.RowKit
set_option linter.unusedVariables false
set_option maxRecDepth 100000

/-- a block of a list -/
def blkAt (p : List UInt8) (a : Nat) : List UInt8 := (p.drop a).take 64

theorem byteAt_blk (p : List UInt8) (a k : Nat) (hk : k < 64) (hl : a + 64 ≤ p.length) : byteAt (blkAt p a) (k : Int) = (p.getD (a + k) 0).toNat := by
  unfold byteAt blkAt
  rw [if_pos (by rw [List.length_take, List.length_drop]; omega)]
  rw [show ((k : Int)).toNat = k by omega]
  simp [List.getD_eq_getElem?_getD, List.getElem?_take, hk, List.getElem?_drop]

theorem beTo_succ (l : List UInt8) (a : Int) (k : Nat) : beTo l a (k + 1) = 256 * beTo l a k + byteAt l (a + k) := rfl
theorem beTo_zero (l : List UInt8) (a : Int) : beTo l a 0 = 0 := rfl

theorem wTo2_at (b : List UInt8) (t k : Nat) (ht : t ≤ k) (hk : k < 64) : at32 (wTo2 b t) k = 0 := by
  induction t with
  | zero =>
    show at32 (List.replicate 64 0) k = 0
    unfold at32
    rw [List.getD_eq_getElem?_getD, List.getElem?_replicate, if_pos hk]; rfl
  | succ t ih =>
    have hs : ∃ v, wTo2 b (t + 1) = (wTo2 b t).set t v := ⟨_, rfl⟩
    obtain ⟨v, hv⟩ := hs
    rw [hv]
    unfold at32 at *
    rw [List.getD_eq_getElem?_getD, List.getElem?_set, if_neg (by omega), ← List.getD_eq_getElem?_getD]
    exact ih (by omega)

theorem wTo2_set0 (b : List UInt8) (t : Nat) (ht : t < 64) : (wTo2 b t).set t (UInt32.ofNat (beTo b (4 * t : Nat) 0)) = wTo2 b t := by
  apply List.ext_getElem?
  intro i
  rw [List.getElem?_set]
  by_cases hi : t = i
  · subst hi
    rw [if_pos rfl, wTo2_length, if_pos ht, at32_some (by rw [wTo2_length]; exact ht), wTo2_at b t t (Nat.le_refl _) ht, beTo_zero]; rfl
  · rw [if_neg hi]

theorem at32_set (l : List UInt32) (k : Nat) (x : UInt32) (hk : k < l.length) : at32 (l.set k x) k = x := by
  unfold at32
  rw [List.getD_eq_getElem?_getD, List.getElem?_set, if_pos rfl, if_pos hk]; rfl

theorem ofNat_val {m : Nat} (h : m ≤ 4294967295) : ((UInt32.ofNat m).toNat : Int) = (m : Int) := by
  rw [UInt32.toNat_ofNat', Nat.mod_eq_of_lt (by omega)]

theorem map_of {h : List UInt32} (hh : h.length = 8) : h.map u32v = [.int .u32 ((R8.of h).a.toNat : Int), .int .u32 ((R8.of h).b.toNat : Int), .int .u32 ((R8.of h).c.toNat : Int), .int .u32 ((R8.of h).d.toNat : Int), .int .u32 ((R8.of h).e.toNat : Int), .int .u32 ((R8.of h).f.toNat : Int), .int .u32 ((R8.of h).g.toNat : Int), .int .u32 ((R8.of h).h.toNat : Int)] := by
  match h, hh with
  | [_, _, _, _, _, _, _, _], _ => rfl

theorem a8_size : (Try.prog.info? 40).map (·.size) = some 8 := by kernel_rfl

/-- eight words as cells -/
abbrev vals8 (x : R8) : List Value := [.int .u32 (x.a.toNat : Int), .int .u32 (x.b.toNat : Int), .int .u32 (x.c.toNat : Int), .int .u32 (x.d.toNat : Int), .int .u32 (x.e.toNat : Int), .int .u32 (x.f.toNat : Int), .int .u32 (x.g.toNat : Int), .int .u32 (x.h.toNat : Int)]

theorem or_b32 {b x : Nat} (hb : b ≤ 16777215) (hx : x ≤ 255) : bits .or .u32 ((b : Int) * 256) (x : Int) = ((256 * b + x : Nat) : Int) := or_byteT_32 hb hx

attribute [local irreducible] wTo2 rTo2 comp2 pOf2 qOf2 rnd2 ror32 kTab2 sg0 sg1 wNext2 beTo hTo

set_option maxHeartbeats 8000000 in
theorem refComp_s (h : List UInt32) (hh : h.length = 8) (A : Option Addr) (n c : Nat) (p : List UInt8) (a : Nat) (w : World) (hA : Rd w 1 A n (p.map vb)) (hn : n ≤ 100000000000) (ha : a + 64 ≤ n) :
    Calls Try.prog 72 #[.agg (h.map u32v).toArray, .slice A n c, .int .i64 (a : Int)] w fun e w' => e = .returned (.agg ((comp2 h (blkAt p a)).map u32v).toArray) ∧ Below w.heap.size w w' := by
  have hl : p.length = n := by simpa using hA.1
  have HL := Lib.hid hl
  have HH := Lib.hid hh
  have HAA := Lib.hid hA
  clear hl hh hA
  obtain ⟨b, hb⟩ : ∃ b, blkAt p a = b := ⟨_, rfl⟩
  have HBK := Lib.hid hb
  rw [hb]
  clear hb
  have H0 := St.start_lay w []
  go_enter Try.func72, Try.ntmps72
  go_upto_region 1 with fail
  refine absorb_wp (H0.allocAt 0 rfl w.heap.size rfl _ _ |>.push_mk rfl |>.allocAt 1 rfl (w.heap.size + 1) (by simp) _ _ |>.push_mk rfl) ?_
  clear H0
  intro w1 H
  generalize w.heap.size + 1 = gr at H ⊢
  generalize w.heap.size = gh at H ⊢
  replace H : St w [] w1 (lay [.blk gh 40 (h.map u32v), .blk gr 40 (List.replicate 8 (.int .u32 0))]) := H
  go_wp2_with fail
  refine (refTable_s w1).mono ?_
  rintro e w2 ⟨rfl, hb2⟩
  replace H := H.call hb2
  clear hb2
  obtain ⟨K, hK⟩ : ∃ K, kTab2.map u32v = K := ⟨_, rfl⟩
  have HKL : Hid (K.length = 64) := by unfold Hid; rw [← hK, List.length_map, kTab2_length]
  have HK1 : Hid (∀ u ∈ K, u.oneCell' = true) := by unfold Hid; rw [← hK]; exact u32_one _
  rw [hK]
  have HK := Lib.hid hK
  clear hK
  go_wp2_with (with_reducible refine hold_store 103 (.tmp 7) (.tmp 18) (by rfl) ?_)
  refine Lib.hid ?_
  refine absorb_list (H.allocAt 2 rfl w2.heap.size rfl _ _ |>.push_mk rfl) ?_
  clear H
  intro w3 H
  generalize w2.heap.size = gk at H ⊢
  replace H : St w [] w3 (lay [.blk gh 40 (h.map u32v), .blk gr 40 (List.replicate 8 (.int .u32 0)), .blk gk 103 (List.replicate 64 (.int .u32 0))]) := H
  refine wpList_store_mid rfl 103 (.tmp 7) (.tmp 18) rfl gk 0 K.toArray rfl rfl (by have ht := H.there 2 rfl; rw [List.length_replicate] at ht; rw [List.size_toArray, HKL.out]; exact ht) (by rw [tab_size, List.size_toArray, HKL.out]) (all_oneCell_toArray HK1.out) ?_
  replace H := (H.storeAll 2 rfl (vs := K) (by rw [HKL.out, List.length_replicate])).upd_mk (by simp)
  generalize w3.setCells gk 0 K = w4 at H ⊢
  go_upto_region 3 with fail
  refine absorb_wp (H.allocAt 3 rfl w4.heap.size rfl _ _ |>.push_mk rfl) ?_
  clear H
  intro w5 H
  generalize w4.heap.size = gw at H ⊢
  replace H : St w [] w5 (lay [.blk gh 40 (h.map u32v), .blk gr 40 (List.replicate 8 (.int .u32 0)), .blk gk 103 K, .blk gw 103 ((wTo2 b 0).map u32v)]) := by rw [wTo2_zero]; exact H
  go_wp2
  go_loopw [9] (fun i wr => ∃ k : Nat, k ≤ 64 ∧ i = .int .i64 k ∧ St w [] wr (lay [.blk gh 40 (h.map u32v), .blk gr 40 (List.replicate 8 (.int .u32 0)), .blk gk 103 K, .blk gw 103 ((wTo2 b k).map u32v)])) (fun i _ => 64 - (intOf i).toNat)
  case atStart => exact ⟨0, by omega, rfl, H⟩
  case round =>
    clear H
    obtain ⟨k, hk, rfl, H⟩ := hrel
    by_cases hlt : k < 64
    · have hk1 : (k : Int) < 64 := by omega
      by_cases h16 : k < 16
      · have hk2 : (k : Int) < 16 := by omega
        have HV := Lib.hid (wTo2_lo b k h16)
        have HLn : Hid ((wTo2 b k).length = 64) := wTo2_length _ _
        have HS0 := Lib.hid (wTo2_set0 b k hlt)
        rw [← HS0.out] at H
        generalize wTo2 b k = W at H HV HLn
        clear HS0
        go_wp2
        go_loopw [10] (fun i wr => ∃ t : Nat, t ≤ 4 ∧ i = .int .i64 t ∧ St w [] wr (lay [.blk gh 40 (h.map u32v), .blk gr 40 (List.replicate 8 (.int .u32 0)), .blk gk 103 K, .blk gw 103 ((W.set k (UInt32.ofNat (beTo b (4 * k : Nat) t))).map u32v)])) (fun i _ => 4 - (intOf i).toNat)
        case atStart => exact ⟨0, by omega, rfl, H⟩
        case round =>
          clear H
          obtain ⟨t, ht, rfl, H⟩ := hrel
          by_cases hlt4 : t < 4
          · have ht1 : (t : Int) < 4 := by omega
            have hb := beTo_lt b (4 * k : Nat) t
            have hp : 256 ^ t ≤ 16777216 := Nat.le_trans (Nat.pow_le_pow_right (by omega) (show t ≤ 3 by omega)) (by decide)
            have hb' : beTo b (4 * k : Nat) t ≤ 16777215 := by omega
            have HSU := Lib.hid (beTo_succ b (4 * k : Nat) t)
            obtain ⟨ad, x, hA, hx, hc, hbl⟩ := (HAA.out.below H.below).byteIn (k := a + (4 * k + t)) (by omega)
            have hxx : byteAt b ((4 * k : Nat) + (t : Int)) = x.toNat := by
              rw [show (((4 * k : Nat) : Int) + (t : Int)) = ((4 * k + t : Nat) : Int) by omega, ← HBK.out, byteAt_blk p a _ (by omega) (by rw [HL.out]; exact ha), List.getD_eq_getElem?_getD, hx]; rfl
            rw [hxx] at HSU
            have a0 := H.cell 3 rfl (u32_get (l := W.set k (UInt32.ofNat (beTo b (4 * k : Nat) t))) (k := k) (by rw [List.length_set, HLn.out]; omega))
            rw [at32_set _ _ _ (by rw [HLn.out]; omega), ofNat_val (by omega)] at a0
            have f0 := H.free 3 rfl k
            have hxb : x.toNat ≤ 255 := by have := x.toNat_lt; omega
            have hix : ((a : Int) + 4 * (k : Int) + (t : Int)) = ((a + (4 * k + t) : Nat) : Int) := by omega
            have hin : ((a + (4 * k + t) : Nat) : Int) < (n : Int) := by omega
            subst hA
            generalize hv : beTo b (4 * k : Nat) t = v at *
            clear hxx hb hp hx
            go_upto_region 10 with fail
            refine region_quiet_tail 17 (by kernel_rfl) (by kernel_rfl) ?_
            simp only [List.take_succ_cons, List.take_zero, List.drop_succ_cons, List.drop_zero]
            repeat (go_big_quiet_step (fail))
            refine wpQuiet_nil ?_
            intro nq
            have H2 := ((H.drewN nq).store 3 rfl (o := k) (u := u32v (UInt32.ofNat (256 * v + x.toNat)))).upd_mk (by simp)
            rw [u32_set, List.set_set] at H2
            unfold u32v at H2
            rw [ofNat_val (by omega)] at H2
            go_wp2
            rw [or_b32 hb' hxb]
            go_roundw
            case rel => exact ⟨t + 1, by omega, by go_num, by rw [HSU.out]; exact H2⟩
            case measure => simp [intOf]; omega
          · obtain rfl : t = 4 := by omega
            rw [← HV.out] at H
            go_wp2
            go_roundw
            case rel => exact ⟨k + 1, by omega, by go_num, H⟩
            case measure => simp [intOf]; omega
      · have h16' : ¬ ((k : Int) < 16) := by omega
        have k15 : ((k : Int) - 15) = ((k - 15 : Nat) : Int) := by omega
        have k2 : ((k : Int) - 2) = ((k - 2 : Nat) : Int) := by omega
        have k7 : ((k : Int) - 7) = ((k - 7 : Nat) : Int) := by omega
        have k16 : ((k : Int) - 16) = ((k - 16 : Nat) : Int) := by omega
        have hv := wTo2_hi b k (by omega)
        have HV := Lib.hid hv
        clear hv
        have a15 := H.cell 3 rfl (u32_get (l := wTo2 b k) (k := k - 15) (by rw [wTo2_length]; omega))
        have a2 := H.cell 3 rfl (u32_get (l := wTo2 b k) (k := k - 2) (by rw [wTo2_length]; omega))
        have a7 := H.cell 3 rfl (u32_get (l := wTo2 b k) (k := k - 7) (by rw [wTo2_length]; omega))
        have a16 := H.cell 3 rfl (u32_get (l := wTo2 b k) (k := k - 16) (by rw [wTo2_length]; omega))
        have f0 := H.free 3 rfl k
        have a0 := H.cell 3 rfl (u32_get (l := wTo2 b k) (k := k) (by rw [wTo2_length]; omega))
        have HWN := Lib.hid (wNext2_eq (wTo2 b k) k)
        obtain ⟨x15, hA15⟩ : ∃ x, at32 (wTo2 b k) (k - 15) = x := ⟨_, rfl⟩
        have HA15 := Lib.hid hA15
        rw [hA15] at a15
        clear hA15
        obtain ⟨x2, hA2⟩ : ∃ x, at32 (wTo2 b k) (k - 2) = x := ⟨_, rfl⟩
        have HA2 := Lib.hid hA2
        rw [hA2] at a2
        clear hA2
        obtain ⟨x7, hA7⟩ : ∃ x, at32 (wTo2 b k) (k - 7) = x := ⟨_, rfl⟩
        have HA7 := Lib.hid hA7
        rw [hA7] at a7
        clear hA7
        obtain ⟨x16, hA16⟩ : ∃ x, at32 (wTo2 b k) (k - 16) = x := ⟨_, rfl⟩
        have HA16 := Lib.hid hA16
        rw [hA16] at a16
        clear hA16
        go_upto_region 11 with fail
        go_quiet (first | (go_at_call 77; first | with_reducible exact rr_7 _ _ _ | with_reducible exact rr_18 _ _ _))
        replace H := H.drewN nq
        generalize wr.drewN nq = wr2 at H ⊢
        clear a15 a2 a7 a16 f0 a0
        have a2 := H.cell 3 rfl (u32_get (l := wTo2 b k) (k := k - 2) (by rw [wTo2_length]; omega))
        rw [HA2.out] at a2
        go_upto_region 12 with fail
        go_quiet (first | (go_at_call 77; first | with_reducible exact rr_17 _ _ _ | with_reducible exact rr_19 _ _ _))
        replace H := H.drewN nq
        generalize wr2.drewN nq = wr3 at H ⊢
        clear a2
        have a7 := H.cell 3 rfl (u32_get (l := wTo2 b k) (k := k - 7) (by rw [wTo2_length]; omega))
        have a16 := H.cell 3 rfl (u32_get (l := wTo2 b k) (k := k - 16) (by rw [wTo2_length]; omega))
        rw [HA7.out] at a7
        rw [HA16.out] at a16
        have f0 := H.free 3 rfl k
        have a0 := H.cell 3 rfl (u32_get (l := wTo2 b k) (k := k) (by rw [wTo2_length]; omega))
        go_upto_region 13 with fail
        refine region_quiet_tail 15 (by kernel_rfl) (by kernel_rfl) ?_
        simp only [List.take_succ_cons, List.take_zero, List.drop_succ_cons, List.drop_zero]
        repeat (go_big_quiet_step (fail))
        refine wpQuiet_nil ?_
        intro nq
        have HN : Hid (wTo2 b (k + 1) = (wTo2 b k).set k (sg1 x2 + x7 + sg0 x15 + x16)) := by unfold Hid; rw [HV.out, HWN.out, HA2.out, HA7.out, HA15.out, HA16.out]
        have H2 := ((H.drewN nq).store 3 rfl (o := k) (u := u32v (sg1 x2 + x7 + sg0 x15 + x16))).upd_mk (by simp)
        rw [u32_set, ← HN.out] at H2
        unfold u32v at H2
        go_wp2
        rw [sg1_val, sg0_val, sum4]
        go_roundw
        case rel => exact ⟨k + 1, by omega, by go_num, H2⟩
        case measure => simp [intOf]; omega
    · obtain rfl : k = 64 := by omega
      rw [show ((64 : Nat) : Int) = 64 from rfl]
      obtain ⟨W, hW⟩ : ∃ W, wTo2 b 64 = W := ⟨_, rfl⟩
      have HWL : Hid (W.length = 64) := by unfold Hid; rw [← hW]; exact wTo2_length _ _
      rw [hW] at H
      have HWE := Lib.hid hW
      clear hW
      obtain ⟨X, hX⟩ : ∃ X, R8.of h = X := ⟨_, rfl⟩
      have HX : Hid (R8.of h = X) := hX
      have HM : Hid (h.map u32v = [.int .u32 (X.a.toNat : Int), .int .u32 (X.b.toNat : Int), .int .u32 (X.c.toNat : Int), .int .u32 (X.d.toNat : Int), .int .u32 (X.e.toNat : Int), .int .u32 (X.f.toNat : Int), .int .u32 (X.g.toNat : Int), .int .u32 (X.h.toNat : Int)]) := by unfold Hid; rw [← hX]; exact map_of HH.out
      clear hX
      rw [HM.out] at H
      go_upto_region 14 with fail
      go_wp2_with (first | (with_reducible refine hold_store 40 (.tmp 13) (.tmp 95) (by rfl) ?_) | (refine wpList_load_row rfl 40 (.tmp 3) rfl gh rfl _ _ _ _ (H.blk 0 rfl) Try.underlying40 rfl a8_size ?_))
      refine Lib.hid ?_
      refine absorb_list (H.allocAt 4 rfl wr.heap.size rfl _ _ |>.push_mk rfl) ?_
      clear H
      intro w6 H
      generalize wr.heap.size = gx at H ⊢
      replace H : St w [] w6 (lay [.blk gh 40 (vals8 X), .blk gr 40 (List.replicate 8 (.int .u32 0)), .blk gk 103 K, .blk gw 103 (W.map u32v), .blk gx 40 (List.replicate 8 (.int .u32 0))]) := H
      refine wpList_store_mid rfl 40 (.tmp 13) (.tmp 95) rfl gx 0 (vals8 X).toArray rfl rfl (by have ht := H.there 4 rfl; rw [List.length_replicate] at ht; exact ht) a8_size (by kernel_rfl) ?_
      replace H := (H.storeAll 4 rfl (vs := vals8 X) rfl).upd_mk (by simp)
      replace H : St w [] (w6.setCells gx 0 (vals8 X)) (lay [.blk gh 40 (h.map u32v), .blk gr 40 (List.replicate 8 (.int .u32 0)), .blk gk 103 K, .blk gw 103 (W.map u32v), .blk gx 40 (vals8 X)]) := by rw [HM.out]; exact H
      go_wp2
      generalize w6.setCells gx 0 (vals8 X) = w7 at H ⊢
      go_loopw [14] (fun i wr => ∃ k : Nat, k ≤ 64 ∧ i = .int .i64 k ∧ St w [] wr (lay [.blk gh 40 (h.map u32v), .blk gr 40 (List.replicate 8 (.int .u32 0)), .blk gk 103 K, .blk gw 103 (W.map u32v), .blk gx 40 (vals8 (rTo2 W X k))])) (fun i _ => 64 - (intOf i).toNat)
      case atStart => exact ⟨0, by omega, rfl, by rw [rTo2_zero]; exact H⟩
      case round =>
        clear H
        obtain ⟨k, hk, rfl, H⟩ := hrel
        have HS : Hid (rTo2 W X (k + 1) = rnd2 (at32 kTab2 k) (at32 W k) (rTo2 W X k)) := rTo2_succ _ _ _
        by_cases hlt : k < 64
        · have hk1 : (k : Int) < 64 := by omega
          have ck := H.cell 2 rfl (o := k) (by rw [← HK.out]; exact u32_get (by rw [kTab2_length]; omega))
          have cw := H.cell 3 rfl (u32_get (l := W) (k := k) (by rw [HWL.out]; omega))
          generalize at32 kTab2 k = kk at ck HS
          generalize at32 W k = ww at cw HS
          generalize rTo2 W X k = x at HS H
          have c4 := H.cell 4 rfl (o := 4) rfl
          have c5 := H.cell 4 rfl (o := 5) rfl
          have c6 := H.cell 4 rfl (o := 6) rfl
          have c7 := H.cell 4 rfl (o := 7) rfl
          go_upto_region 18 with fail
          go_quiet (first | (go_at_call 77; first | with_reducible exact rr_6 _ _ _ | with_reducible exact rr_11 _ _ _ | with_reducible exact rr_25 _ _ _))
          replace H := H.drewN nq
          generalize wr.drewN nq = wr3 at H ⊢
          clear ck cw c4 c5 c6 c7
          have c0 := H.cell 4 rfl (o := 0) rfl
          have c1 := H.cell 4 rfl (o := 1) rfl
          have c2 := H.cell 4 rfl (o := 2) rfl
          go_upto_region 19 with fail
          go_quiet (first | (go_at_call 77; first | with_reducible exact rr_2 _ _ _ | with_reducible exact rr_13 _ _ _ | with_reducible exact rr_22 _ _ _))
          replace H := H.drewN nq
          generalize wr3.drewN nq = wr4 at H ⊢
          clear c0 c1 c2
          rw [pval2, qval2]
          obtain ⟨pv, hpv⟩ : ∃ p, pOf2 kk ww x = p := ⟨_, rfl⟩
          obtain ⟨qv, hqv⟩ : ∃ q, qOf2 x = q := ⟨_, rfl⟩
          rw [hpv, hqv]
          have HR : Hid (rTo2 W X (k + 1) = ⟨pv + qv, x.a, x.b, x.c, x.d + pv, x.e, x.f, x.g⟩) := by unfold Hid; rw [HS.out, rnd2_eq, hpv, hqv]
          clear hpv hqv
          have c0 := H.cell 4 rfl (o := 0) rfl
          have c1 := H.cell 4 rfl (o := 1) rfl
          have c2 := H.cell 4 rfl (o := 2) rfl
          have c3 := H.cell 4 rfl (o := 3) rfl
          have c4 := H.cell 4 rfl (o := 4) rfl
          have c5 := H.cell 4 rfl (o := 5) rfl
          have c6 := H.cell 4 rfl (o := 6) rfl
          go_upto_region 20 with fail
          go_wp2_with (with_reducible refine hold_store 40 (.tmp 13) (.tmp 183) (by rfl) ?_)
          refine Lib.hid ?_
          rw [add32, add32]
          refine wpList_store_mid rfl 40 (.tmp 13) (.tmp 183) rfl gx 0 (vals8 ⟨pv + qv, x.a, x.b, x.c, x.d + pv, x.e, x.f, x.g⟩).toArray rfl rfl (by have ht := H.there 4 rfl; exact ht) a8_size (by kernel_rfl) ?_
          have H2 := (H.storeAll 4 rfl (vs := vals8 ⟨pv + qv, x.a, x.b, x.c, x.d + pv, x.e, x.f, x.g⟩) rfl).upd_mk (by simp)
          show wpList Try.prog _ _ [] _ (wr4.setCells gx 0 (vals8 ⟨pv + qv, x.a, x.b, x.c, x.d + pv, x.e, x.f, x.g⟩))
          generalize wr4.setCells gx 0 (vals8 ⟨pv + qv, x.a, x.b, x.c, x.d + pv, x.e, x.f, x.g⟩) = w8 at H2 ⊢
          clear c0 c1 c2 c3 c4 c5 c6 H
          clear h
          replace H2 : St w [] w8 (lay [.blk gh 40 (h.map u32v), .blk gr 40 (List.replicate 8 (.int .u32 0)), .blk gk 103 K, .blk gw 103 (W.map u32v), .blk gx 40 (vals8 (rTo2 W X (k + 1)))]) := by rw [HR.out]; exact H2
          clear HS HR
          go_wp2
          go_roundw
          case rel => exact ⟨k + 1, by omega, by go_num, H2⟩
          case measure => simp [intOf]; omega
        · obtain rfl : k = 64 := by omega
          rw [show ((64 : Nat) : Int) = 64 from rfl]
          obtain ⟨x, hx⟩ : ∃ x, rTo2 W X 64 = x := ⟨_, rfl⟩
          rw [hx] at H
          have HXX := Lib.hid hx
          clear hx HS
          obtain ⟨y, hy⟩ : ∃ y, x.list = y := ⟨_, rfl⟩
          have HYL : Hid (y.length = 8) := by unfold Hid; rw [← hy]; rfl
          have HSA : Hid (sumTo h y 8 = comp2 h b) := by unfold Hid; rw [← hy, ← HXX.out, ← HX.out, ← HWE.out]; exact sumTo_all h b
          replace H : St w [] wr (lay [.blk gh 40 ((sumTo h y 0).map u32v), .blk gr 40 (List.replicate 8 (.int .u32 0)), .blk gk 103 K, .blk gw 103 (W.map u32v), .blk gx 40 (y.map u32v)]) := by rw [sumTo_zero HH.out, ← hy]; exact H
          clear hy
          go_upto_region 22 with fail
          go_loopw [17] (fun i wr => ∃ k : Nat, k ≤ 8 ∧ i = .int .i64 k ∧ St w [] wr (lay [.blk gh 40 ((sumTo h y k).map u32v), .blk gr 40 (List.replicate 8 (.int .u32 0)), .blk gk 103 K, .blk gw 103 (W.map u32v), .blk gx 40 (y.map u32v)])) (fun i _ => 8 - (intOf i).toNat)
          case atStart => exact ⟨0, by omega, rfl, H⟩
          case round =>
            clear H
            obtain ⟨k, hk, rfl, H⟩ := hrel
            by_cases hlt : k < 8
            · have hk1 : (k : Int) < 8 := by omega
              have c0 := H.cell 0 rfl (u32_get (l := sumTo h y k) (k := k) (by rw [sumTo_length]; omega))
              have c1 := H.cell 4 rfl (u32_get (l := y) (k := k) (by rw [HYL.out]; omega))
              have f0 := H.free 0 rfl k
              rw [at32_sumTo _ _ _ hlt] at c0
              have HSS := Lib.hid (sumTo_succ h y k hlt)
              obtain ⟨yk, hyk⟩ : ∃ v, at32 y k = v := ⟨_, rfl⟩
              obtain ⟨hk', hhk⟩ : ∃ v, at32 h k = v := ⟨_, rfl⟩
              rw [hyk] at c1 HSS
              rw [hhk] at c0 HSS
              clear hyk hhk
              go_upto_region 24 with fail
              refine region_quiet_tail 9 (by kernel_rfl) (by kernel_rfl) ?_
              simp only [List.take_succ_cons, List.take_zero, List.drop_succ_cons, List.drop_zero]
              repeat (go_big_quiet_step (fail))
              refine wpQuiet_nil ?_
              intro nq
              have H2 := ((H.drewN nq).store 0 rfl (o := k) (u := u32v (hk' + yk))).upd_mk (by simp)
              rw [u32_set, ← HSS.out] at H2
              unfold u32v at H2
              go_wp2
              rw [add32]
              go_roundw
              case rel => exact ⟨k + 1, by omega, by go_num, H2⟩
              case measure => simp [intOf]; omega
            · obtain rfl : k = 8 := by omega
              rw [show ((8 : Nat) : Int) = 8 from rfl]
              rw [HSA.out] at H
              have HCL : Hid ((comp2 h b).length = 8) := comp2_length h b
              go_upto_region 25 with fail
              go_wp2_with (first | (with_reducible refine hold_store 40 (.tmp 6) (.tmp 197) (by rfl) ?_) | (refine wpList_load_row rfl 40 (.tmp 3) rfl gh rfl _ _ _ _ (H.blk 0 rfl) Try.underlying40 rfl (by rw [a8_size]; simp [HCL.out]) ?_))
              refine Lib.hid ?_
              refine wpList_store_mid rfl 40 (.tmp 6) (.tmp 197) rfl gr 0 ((comp2 h b).map u32v).toArray rfl rfl (by have ht := H.there 1 rfl; rw [List.length_replicate] at ht; rw [List.size_toArray, List.length_map, HCL.out]; exact ht) (by rw [a8_size]; simp [HCL.out]) (all_oneCell_toArray (u32_one _)) ?_
              have H4 := (H.storeAll 1 rfl (vs := (comp2 h b).map u32v) (by rw [List.length_map, HCL.out, List.length_replicate])).upd_mk (by simp)
              show wpList Try.prog _ _ [] _ (wr.setCells gr 0 ((comp2 h b).map u32v))
              go_wp2
              exact bodyPost_ret (results_cell_row rfl _ _ gr 40 ((comp2 h b).map u32v).toArray _ _ rfl (H4.blk 1 rfl) Try.underlying40 rfl (by rw [a8_size]; simp [HCL.out])) rfl ⟨rfl, H4.below⟩
end Go.Proofs.Ytcnphkmcgefjoaa
