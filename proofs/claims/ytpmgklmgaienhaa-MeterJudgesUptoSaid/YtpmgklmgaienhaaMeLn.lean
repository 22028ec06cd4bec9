/- turnkeylaw29.lent and kept: rows of runs, each in memory of its own, marks behind it. -/
import Derived.Test.YtpmgklmgaienhaaRowRs
import Derived.Test.YtpmgklmgaienhaaMeHp
import Derived.Test.YtpmgklmgaienhaaMeK
import Derived.Test.YtpmgklmgaienhaaBigO

namespace Go.Proofs.Ytpmgklmgaienhaa
open Go.RowKit
set_option linter.unusedVariables false
set_option maxRecDepth 100000

/-- a row that was lent: where it lies -/
structure LentM where
  g : Nat
  n : Nat
  c : Nat
  l : List RunT

def LentM.out (p : LentM) : RowM := ⟨some ⟨p.g, 0, none⟩, p.n, p.c, p.l⟩

def LentM.outV (p : LentM) : Value := .slice (some ⟨p.g, 0, none⟩) p.n p.c

def LentM.fullV (p : LentM) : Value := .slice (some ⟨p.g, 0, none⟩) (p.n + 6) p.c

def LentM.own (p : LentM) : Own := .row 60 3 (.slice (some ⟨p.g, 0, none⟩) (p.n + 6) p.c) (p.n + 6) (runsV (p.l ++ marksRn 7 0 6))

def LentM.core (p : LentM) : List RunT × Nat := (p.l, p.n)

theorem outs_core (ps : List LentM) : (ps.map LentM.out).map core = ps.map LentM.core := by rw [List.map_map]; rfl

theorem outs_V (ps : List LentM) : (ps.map LentM.out).map rowMV = ps.map LentM.outV := by rw [List.map_map]; rfl

theorem lent_one {f : LentM → Value} (hf : ∀ p, (f p).oneCell' = true) (ps : List LentM) : ∀ u ∈ ps.map f, u.oneCell' = true := by
  intro u hu
  obtain ⟨p, -, rfl⟩ := List.mem_map.1 hu
  exact hf p

theorem LentM.full {p : LentM} {w : World} {G : List Nat} (h : p.own.holds w G) : Rd w 3 (some ⟨p.g, 0, none⟩) (p.n + 6) (runsV (p.l ++ marksRn 7 0 6)) := Rd.of_own h.1

/-- the lent rows are such as the others are -/
theorem lent_ok {w0 w : World} {F0 : List Nat} {E : Env} {k : Nat} {ps : List LentM} {rs : List RowM} {W : World} (H : St w0 F0 w E) (hk : E k = some (bigO LentM.own ps)) (hc : ps.map LentM.core = rs.map core) (hok : ∀ r ∈ rs, RowM.Ok r W) : RowsOk w (ps.map LentM.out) := by
  intro r hr
  obtain ⟨p, hp, rfl⟩ := List.mem_map.1 hr
  obtain ⟨i, hi⟩ := List.getElem?_of_mem hp
  obtain ⟨G, hG⟩ := H.bigRow k hk hi
  have e : ∃ r', rs[i]? = some r' ∧ core r' = p.core := by
    have h := congrArg (fun l => l[i]?) hc
    simp only [List.getElem?_map, hi] at h
    cases hx : rs[i]? with
    | none => rw [hx] at h; simp at h
    | some r' => rw [hx] at h; simp at h; exact ⟨r', rfl, h.symm⟩
  obtain ⟨r', hr', he⟩ := e
  have ok := hok r' (List.mem_of_getElem? hr')
  have e1 : r'.l = p.l := congrArg Prod.fst he
  have e2 : r'.n = p.n := congrArg Prod.snd he
  have hl : p.l.length = p.n := by have h := ok.1.1; rw [runsV_length, e1, e2] at h; omega
  refine ⟨(LentM.full hG).takeRn hl (by show p.n ≤ p.n + 6; omega), ?_, ?_⟩
  · show p.n ≤ _
    have := ok.2.1
    omega
  · show ∀ x ∈ p.l, RunOk x
    rw [← e1]; exact ok.2.2.2

set_option maxHeartbeats 2000000 in
theorem lent29_s (A : Option Addr) (n c : Nat) (rs : List RowM) (w : World) (hR : Rd w 1 A n (rs.map rowMV)) (hok : ∀ r ∈ rs, RowM.Ok r w) (hn : n ≤ 1000000) :
    Calls Try.prog 26 #[.slice A n c] w fun e w' => ∃ V1 V2 ps, e = .returned (.tuple #[V1, V2]) ∧ Hid (ps.map LentM.core = rs.map core) ∧ St w [] w' (lay [.row 35 1 V1 n (ps.map LentM.outV), .row 35 1 V2 n (ps.map LentM.fullV), bigO LentM.own ps]) := by
  obtain ⟨i0, hi0, hz0, hz1, hz2⟩ := info_parts rows_info
  have hl : rs.length = n := by simpa using hR.1
  have HL := Lib.hid hl
  have HR := Lib.hid hR
  have HOK := Lib.hid hok
  clear hl hR hok
  have H0 := (St.start_lay w []).nilRow 0 rfl 35 1 |>.push_mk rfl |>.nilRow 1 rfl 35 1 |>.push_mk rfl |>.nothing 2 rfl |>.push_mk rfl
  replace H0 : St w [] w (lay [.row 35 1 (.slice none 0 0) 0 (([] : List LentM).map LentM.outV), .row 35 1 (.slice none 0 0) 0 (([] : List LentM).map LentM.fullV), bigO LentM.own []]) := H0
  go_enter Try.func26, Try.ntmps26
  go_wp2
  go_loopw [4, 5, 6] (fun V1 V2 i wr => ∃ (j : Nat) (ps : List LentM), j ≤ n ∧ i = .int .i64 (j : Int) ∧ Hid (ps.map LentM.core = (rs.take j).map core) ∧ St w [] wr (lay [.row 35 1 V1 j (ps.map LentM.outV), .row 35 1 V2 j (ps.map LentM.fullV), bigO LentM.own ps])) (fun _ _ i _ => n - (intOf i).toNat)
  case atStart => exact ⟨0, [], Nat.zero_le _, rfl, rfl, H0⟩
  case round =>
    clear H0
    obtain ⟨j, ps, hj, rfl, HC, H⟩ := hrel
    by_cases hlt : j < n
    · obtain ⟨⟨XA, rn, rc, rl⟩, hx⟩ : ∃ x, rs[j]? = some x := ⟨_, List.getElem?_eq_getElem (by rw [HL.out]; exact hlt)⟩
      have HX := Lib.hid hx
      have rr := H.arg0 HR.out
      obtain ⟨g, o, he, -, -⟩ := rr.flat (by omega) (by omega)
      subst he
      have cx := heap_cell rr hx
      change wr.cell? ⟨g, o + j, none⟩ = some (.slice XA rn rc) at cx
      have HRow := Lib.hid (HOK.out _ (List.mem_of_getElem? hx))
      have hrn : rn ≤ 1048576 := HRow.out.2.1
      have hji : (j : Int) < n := by omega
      clear hx rr
      obtain ⟨AV1, cV1, hV1, -⟩ := row_form (H.row 0 rfl)
      obtain ⟨AV2, cV2, hV2, -⟩ := row_form (H.row 1 rfl)
      subst hV1 hV2
      go_wp2_with fail
      refine (lentRn_any XA rn rc rl wr (H.arg0 HRow.out.1) (by omega)).mono ?_
      rintro e w1 ⟨v1, rfl, ho, hb⟩
      have hrl : rl.length = rn := by have := HRow.out.1.1; rw [runsV_length] at this; show rl.length = rn; have e : ({ A := XA, n := rn, c := rc, l := rl } : RowM).l = rl := rfl; simp only at this; omega
      obtain ⟨gf, cf, rfl, hcf, ho1⟩ := lentRn_shape hrl ho
      have HRL := Lib.hid hrl
      clear hrl
      have cx2 := (St.start_lay wr []).call hb
      replace H := (H.pushRow 3 rfl hb ho1).push_mk rfl
      have rr := H.arg0 HR.out
      have cx := heap_cell rr HX.out
      change w1.cell? ⟨g, o + j, none⟩ = some (.slice XA rn rc) at cx
      clear hb ho ho1 cx2 rr
      have hc1 : (rn : Int) ≤ cf := by omega
      have H5 : St w [] w1 (lay [.row 35 1 (.slice AV1 j cV1) j (ps.map LentM.outV), .row 35 1 (.slice AV2 j cV2) j (ps.map LentM.fullV), bigO LentM.own ps, LentM.own ⟨gf, rn, cf, rl⟩]) := H
      clear H
      have hr1 := H5.row 0 rfl
      have HA := H5.alloc 4 rfl #[.slice (some ⟨gf, 0, none⟩) rn cf] 35
      go_wp2_with (first | (at_builtin; refine wpList_append_any _ rfl (.tmp 19) (.tmp 27) _ rfl 0 35 i0 _ 1 24 Try.underlying41 hi0 hz0 hz1 hz2 rfl (by omega) (.slice AV1 j cV1) j (ps.map LentM.outV) rfl (hr1.alloc _) (some ⟨w1.heap.size, 0, none⟩) 1 1 [.slice (some ⟨gf, 0, none⟩) rn cf] rfl (rd_new0 w1 [.slice (some ⟨gf, 0, none⟩) rn cf] _ 1 rfl) (by intro u hu; simp at hu; subst hu; rfl) (by simp only [maxLen]; omega) (by omega) (by omega) ?_; intro v6 w6 hown6 hg6 hat6; have H6 := ((HA.grow 0 rfl hown6 hg6 hat6)).sub (E' := lay [.row 35 1 v6 (j + 1) (ps.map LentM.outV ++ [.slice (some ⟨gf, 0, none⟩) rn cf]), .row 35 1 (.slice AV2 j cV2) j (ps.map LentM.fullV), bigO LentM.own ps, LentM.own ⟨gf, rn, cf, rl⟩]) (fun i A hA => match i, hA with | 0, hA => (by simpa [upd, lay] using hA) | 1, hA => (by simpa [upd, lay] using hA) | 2, hA => (by simpa [upd, lay] using hA) | 3, hA => (by simpa [upd, lay] using hA) | i + 4, hA => (by simp [lay] at hA)); clear H5 cx hr1 HA hown6 hg6 hat6; have hr2 := H6.row 1 rfl; have HA2 := H6.alloc 4 rfl #[.slice (some ⟨gf, 0, none⟩) (rn + 6) cf] 35) | (at_builtin; refine wpList_append_any _ rfl (.tmp 29) (.tmp 31) _ rfl 0 35 i0 _ 1 24 Try.underlying41 hi0 hz0 hz1 hz2 rfl (by omega) (.slice AV2 j cV2) j (ps.map LentM.fullV) rfl (hr2.alloc _) (some ⟨w6.heap.size, 0, none⟩) 1 1 [.slice (some ⟨gf, 0, none⟩) (rn + 6) cf] rfl (rd_new0 w6 [.slice (some ⟨gf, 0, none⟩) (rn + 6) cf] _ 1 rfl) (by intro u hu; simp at hu; subst hu; rfl) (by simp only [maxLen]; omega) (by omega) (by omega) ?_; intro v8 w8 hown8 hg8 hat8; have H7 : St w [] w8 (lay [.row 35 1 v6 (j + 1) (ps.map LentM.outV ++ [.slice (some ⟨gf, 0, none⟩) rn cf]), .row 35 1 v8 (j + 1) (ps.map LentM.fullV ++ [.slice (some ⟨gf, 0, none⟩) (rn + 6) cf]), bigO LentM.own ps, LentM.own ⟨gf, rn, cf, rl⟩]) := ((HA2.grow 1 rfl hown8 hg8 hat8)).sub (fun i A hA => match i, hA with | 0, hA => (by simpa [upd, lay] using hA) | 1, hA => (by simpa [upd, lay] using hA) | 2, hA => (by simpa [upd, lay] using hA) | 3, hA => (by simpa [upd, lay] using hA) | i + 4, hA => (by simp [lay] at hA)); clear H6 HA2 hr2 hown8 hg8 hat8))
      have H8 := ((H7.join 2 3 (by omega) (A := bigO LentM.own ps) (B := LentM.own ⟨gf, rn, cf, rl⟩) rfl rfl).recast (A := .sep (bigO LentM.own ps) (LentM.own ⟨gf, rn, cf, rl⟩)) (A' := bigO LentM.own (ps ++ [⟨gf, rn, cf, rl⟩])) 2 (by simp [upd]) (fun w F h => bigO_snoc LentM.own _ ps w F h))
      have H9 : St w [] w8 (lay [.row 35 1 v6 (j + 1) ((ps ++ [(⟨gf, rn, cf, rl⟩ : LentM)]).map LentM.outV), .row 35 1 v8 (j + 1) ((ps ++ [(⟨gf, rn, cf, rl⟩ : LentM)]).map LentM.fullV), bigO LentM.own (ps ++ [⟨gf, rn, cf, rl⟩])]) := by
        rw [List.map_append, List.map_append]
        refine H8.sub fun k C hC => ?_
        match k, hC with
        | 0, hC => simpa [upd, del, lay, LentM.outV, LentM.fullV] using hC
        | 1, hC => simpa [upd, del, lay, LentM.outV, LentM.fullV] using hC
        | 2, hC => simpa [upd, del, lay] using hC
        | k + 3, hC => simp [lay] at hC
      clear H7 H8
      have HC2 : Hid ((ps ++ [(⟨gf, rn, cf, rl⟩ : LentM)]).map LentM.core = (rs.take (j + 1)).map core) := by
        unfold Hid
        rw [List.take_add_one, HX.out, List.map_append, List.map_append, HC.out]
        rfl
      go_wp2
      go_roundw
      case rel => exact ⟨j + 1, _, by omega, by go_num, HC2, H9⟩
      case measure => simp [intOf]; omega
    · obtain rfl : j = n := by omega
      have hji : ¬ (j : Int) < j := by omega
      have HC2 := HC.out
      rw [List.take_of_length_le (by rw [HL.out]; exact Nat.le_refl _)] at HC2
      have HC3 := Lib.hid HC2
      clear HC2
      go_wp2
      go_ret2
      exact ⟨_, _, rfl, ps, HC3, H⟩

theorem lent_cell {f : LentM → Value} {w : World} {g o n j : Nat} {ps : List LentM} {p : LentM} (h : Rd w 1 (some ⟨g, o, none⟩) n (ps.map f)) (hp : ps[j]? = some p) : w.cell? ⟨g, o + j, none⟩ = some (f p) := by
  obtain ⟨ad, e, -, hc⟩ := h.2 (by
    have h1 := (List.getElem?_eq_some_iff.1 hp).1
    have h2 := h.1
    simp at h2
    omega)
  injection e with e
  subst e
  have := hc j (f p) (by rw [List.getElem?_map, hp]; rfl)
  rwa [Addr.add_mid] at this

set_option maxHeartbeats 2000000 in
theorem kept29_s (A B C : Option Addr) (n c1 c2 c3 : Nat) (ps : List LentM) (rs : List RowM) (w : World) (hA : Rd w 1 A n (ps.map LentM.outV)) (hB : Rd w 1 B n (ps.map LentM.fullV)) (hC : Rd w 1 C n (rs.map rowMV)) (hc : ps.map LentM.core = rs.map core) (hok : ∀ r ∈ rs, RowM.Ok r w)
    (hf : ∀ p ∈ ps, Rd w 3 (some ⟨p.g, 0, none⟩) (p.n + 6) (runsV (p.l ++ marksRn 7 0 6))) (hn : n ≤ 1000000) :
    Calls Try.prog 30 #[.slice A n c1, .slice B n c2, .slice C n c3] w fun e w' => e = .returned (.bool true) ∧ Below w.heap.size w w' := by
  have hl : rs.length = n := by simpa using hC.1
  have hl2 : ps.length = n := by simpa using hA.1
  have HL := Lib.hid hl
  have HL2 := Lib.hid hl2
  have RA := Lib.hid hA
  have RB := Lib.hid hB
  have RC := Lib.hid hC
  have HC := Lib.hid hc
  have HOK := Lib.hid hok
  have HF := Lib.hid hf
  clear hl hl2 hA hB hC hc hok hf
  have H0 := St.start_lay w []
  go_enter Try.func30, Try.ntmps30
  go_wp2
  go_loopw [7] (fun i wr => ∃ j : Nat, j ≤ n ∧ i = .int .i64 (j : Int) ∧ St w [] wr (lay [])) (fun i _ => n - (intOf i).toNat)
  case atStart => exact ⟨0, Nat.zero_le _, rfl, H0⟩
  case round =>
    clear H0
    obtain ⟨j, hj, rfl, H⟩ := hrel
    by_cases hlt : j < n
    · obtain ⟨⟨pg, pn, pc, pl⟩, hp⟩ : ∃ x, ps[j]? = some x := ⟨_, List.getElem?_eq_getElem (by rw [HL2.out]; exact hlt)⟩
      obtain ⟨⟨XA, rn, rc, rl⟩, hx⟩ : ∃ x, rs[j]? = some x := ⟨_, List.getElem?_eq_getElem (by rw [HL.out]; exact hlt)⟩
      have he : (pl, pn) = (rl, rn) := by
        have h := congrArg (fun l => l[j]?) HC.out
        simp only [List.getElem?_map, hp, hx] at h
        injection h
      injection he with e1 e2
      subst e1 e2
      have HRow := Lib.hid (HOK.out _ (List.mem_of_getElem? hx))
      have HFul := Lib.hid (HF.out _ (List.mem_of_getElem? hp))
      have hrn : pn ≤ 1048576 := HRow.out.2.1
      have ra := H.arg0 RA.out
      obtain ⟨g1, o1, he, -, -⟩ := ra.flat (by omega) (by omega)
      subst he
      have rb := H.arg0 RB.out
      obtain ⟨g2, o2, he, -, -⟩ := rb.flat (by omega) (by omega)
      subst he
      have rr := H.arg0 RC.out
      obtain ⟨g3, o3, he, -, -⟩ := rr.flat (by omega) (by omega)
      subst he
      have cx1 : wr.cell? ⟨g1, o1 + j, none⟩ = some (.slice (some ⟨pg, 0, none⟩) pn pc) := lent_cell ra hp
      have cx2 : wr.cell? ⟨g2, o2 + j, none⟩ = some (.slice (some ⟨pg, 0, none⟩) (pn + 6) pc) := lent_cell rb hp
      have cx3 : wr.cell? ⟨g3, o3 + j, none⟩ = some (.slice XA pn rc) := heap_cell rr hx
      have X1 := Lib.hid cx1
      have X2 := Lib.hid cx2
      have X3 := Lib.hid cx3
      have hji : (j : Int) < n := by omega
      have hne : ((pn : Int) != pn) = false := by simp
      clear hp hx ra rb rr cx1 cx2 cx3
      go_wp2
      replace H := H.drew
      refine wp_region_held_drew (S := fun w' : World => w'.cell? ⟨g1, o1 + j, none⟩ = some (.slice (some ⟨pg, 0, none⟩) pn pc) ∧ w'.cell? ⟨g2, o2 + j, none⟩ = some (.slice (some ⟨pg, 0, none⟩) (pn + 6) pc) ∧ w'.cell? ⟨g3, o3 + j, none⟩ = some (.slice XA pn rc)) (by kernel_rfl) ?_ (fun hHeld => ?_)
      · exact ⟨X1.out, X2.out, X3.out⟩
      refine takeV 0 rfl (by intro w h; clear h; go_simp; try with_reducible rfl) (by kernel_rfl) (by kernel_rfl) (by kernel_rfl) (by exact fun _ _ _ h => h) (by rfl) (by assumption) ?_
      try simp only [Act.put, List.setIfInBounds_toArray, List.set_cons_zero, List.set_cons_succ]
      refine takeV 1 rfl (by intro w h; clear h; go_simp; try with_reducible rfl) (by kernel_rfl) (by kernel_rfl) (by kernel_rfl) (by exact fun _ _ _ h => h) (by rfl) (by assumption) ?_
      try simp only [Act.put, List.setIfInBounds_toArray, List.set_cons_zero, List.set_cons_succ]
      refine takeV 2 rfl (by intro w h; clear h; go_simp; try with_reducible rfl) (by kernel_rfl) (by kernel_rfl) (by kernel_rfl) (by exact fun _ _ _ h => h) (by rfl) (by assumption) ?_
      try simp only [Act.put, List.setIfInBounds_toArray, List.set_cons_zero, List.set_cons_succ]
      refine takeV 3 rfl (by intro w h; have hc := h.1; clear h; go_simp; try with_reducible rfl) (by kernel_rfl) (by kernel_rfl) (by kernel_rfl) (by exact fun _ _ _ h => h) (by rfl) (by assumption) ?_
      try simp only [Act.put, List.setIfInBounds_toArray, List.set_cons_zero, List.set_cons_succ]
      refine takeV 4 rfl (by intro w h; clear h; go_simp; try with_reducible rfl) (by kernel_rfl) (by kernel_rfl) (by kernel_rfl) (by exact fun _ _ _ h => h) (by rfl) (by assumption) ?_
      try simp only [Act.put, List.setIfInBounds_toArray, List.set_cons_zero, List.set_cons_succ]
      refine takeV 5 rfl (by intro w h; clear h; go_simp; try with_reducible rfl) (by kernel_rfl) (by kernel_rfl) (by kernel_rfl) (by exact fun _ _ _ h => h) (by rfl) (by assumption) ?_
      try simp only [Act.put, List.setIfInBounds_toArray, List.set_cons_zero, List.set_cons_succ]
      refine takeV 6 rfl (by intro w h; clear h; go_simp; try with_reducible rfl) (by kernel_rfl) (by kernel_rfl) (by kernel_rfl) (by exact fun _ _ _ h => h) (by rfl) (by assumption) ?_
      try simp only [Act.put, List.setIfInBounds_toArray, List.set_cons_zero, List.set_cons_succ]
      refine takeV 7 rfl (by intro w h; clear h; go_simp; try with_reducible rfl) (by kernel_rfl) (by kernel_rfl) (by kernel_rfl) (by exact fun _ _ _ h => h) (by rfl) (by assumption) ?_
      try simp only [Act.put, List.setIfInBounds_toArray, List.set_cons_zero, List.set_cons_succ]
      refine takeV 8 rfl (by intro w h; have hc := h.2.2; clear h; go_simp; try with_reducible rfl) (by kernel_rfl) (by kernel_rfl) (by kernel_rfl) (by exact fun _ _ _ h => h) (by rfl) (by assumption) ?_
      try simp only [Act.put, List.setIfInBounds_toArray, List.set_cons_zero, List.set_cons_succ]
      refine takeV 9 rfl (by intro w h; clear h; go_simp; try with_reducible rfl) (by kernel_rfl) (by kernel_rfl) (by kernel_rfl) (by exact fun _ _ _ h => h) (by rfl) (by assumption) ?_
      try simp only [Act.put, List.setIfInBounds_toArray, List.set_cons_zero, List.set_cons_succ]
      refine takeV 10 rfl (by intro w h; clear h; go_simp; try with_reducible rfl) (by kernel_rfl) (by kernel_rfl) (by kernel_rfl) (by exact fun _ _ _ h => h) (by rfl) (by assumption) ?_
      try simp only [Act.put, List.setIfInBounds_toArray, List.set_cons_zero, List.set_cons_succ]
      refine takeV 11 rfl (by intro w h; clear h; go_simp; try with_reducible rfl) (by kernel_rfl) (by kernel_rfl) (by kernel_rfl) (by exact fun _ _ _ h => h) (by rfl) (by assumption) ?_
      try simp only [Act.put, List.setIfInBounds_toArray, List.set_cons_zero, List.set_cons_succ]
      refine takeV 12 rfl (by intro w h; clear h; go_simp; try with_reducible rfl) (by kernel_rfl) (by kernel_rfl) (by kernel_rfl) (by exact fun _ _ _ h => h) (by rfl) (by assumption) ?_
      try simp only [Act.put, List.setIfInBounds_toArray, List.set_cons_zero, List.set_cons_succ]
      refine takeV 13 rfl (by intro w h; clear h; go_simp; try with_reducible rfl) (by kernel_rfl) (by kernel_rfl) (by kernel_rfl) (by exact fun _ _ _ h => h) (by rfl) (by assumption) ?_
      try simp only [Act.put, List.setIfInBounds_toArray, List.set_cons_zero, List.set_cons_succ]
      refine takeV 14 rfl (by intro w h; clear h; go_simp; try with_reducible rfl) (by kernel_rfl) (by kernel_rfl) (by kernel_rfl) (by exact fun _ _ _ h => h) (by rfl) (by assumption) ?_
      try simp only [Act.put, List.setIfInBounds_toArray, List.set_cons_zero, List.set_cons_succ]
      refine takeV 15 rfl (by intro w h; have hc := h.2.1; clear h; go_simp; try with_reducible rfl) (by kernel_rfl) (by kernel_rfl) (by kernel_rfl) (by exact fun _ _ _ h => h) (by rfl) (by assumption) ?_
      try simp only [Act.put, List.setIfInBounds_toArray, List.set_cons_zero, List.set_cons_succ]
      refine takeV 16 rfl (by intro w h; clear h; go_simp; try with_reducible rfl) (by kernel_rfl) (by kernel_rfl) (by kernel_rfl) (by exact fun _ _ _ h => h) (by rfl) (by assumption) ?_
      try simp only [Act.put, List.setIfInBounds_toArray, List.set_cons_zero, List.set_cons_succ]
      refine takeV 17 rfl (by intro w h; clear h; go_simp; try with_reducible rfl) (by kernel_rfl) (by kernel_rfl) (by kernel_rfl) (by exact fun _ _ _ h => h) (by rfl) (by assumption) ?_
      try simp only [Act.put, List.setIfInBounds_toArray, List.set_cons_zero, List.set_cons_succ]
      refine takeV 18 rfl (by intro w h; clear h; go_simp; try with_reducible rfl) (by kernel_rfl) (by kernel_rfl) (by kernel_rfl) (by exact fun _ _ _ h => h) (by rfl) (by assumption) ?_
      try simp only [Act.put, List.setIfInBounds_toArray, List.set_cons_zero, List.set_cons_succ]
      refine takeV 19 rfl (by intro w h; have hc := h.2.2; clear h; go_simp; try with_reducible rfl) (by kernel_rfl) (by kernel_rfl) (by kernel_rfl) (by exact fun _ _ _ h => h) (by rfl) (by assumption) ?_
      try simp only [Act.put, List.setIfInBounds_toArray, List.set_cons_zero, List.set_cons_succ]
      refine take_call 20 rfl (by kernel_rfl) (fun K hK => ?_)
      try go_simp
      refine (keptRn_yes (some ⟨pg, 0, none⟩) XA pn (pn + 6) pc rc pl _ (H.arg0 HFul.out) (H.arg0 HRow.out.1) (by omega) (by omega)).mono ?_
      rintro e wx ⟨rfl, hb⟩
      refine hK.out _ _ ?_ (fun hHeld => ?_)
      · exact ⟨(hb.cell (World.block_lt_of_cell? _ _ X1.out)).trans X1.out, (hb.cell (World.block_lt_of_cell? _ _ X2.out)).trans X2.out, (hb.cell (World.block_lt_of_cell? _ _ X3.out)).trans X3.out⟩
      clear hK K
      try simp only [Act.put, List.setIfInBounds_toArray, List.set_cons_zero, List.set_cons_succ]
      refine takeV 21 rfl (by intro w h; clear h; go_simp; try with_reducible rfl) (by kernel_rfl) (by kernel_rfl) (by kernel_rfl) (by exact fun _ _ _ h => h) (by rfl) (by assumption) ?_
      try simp only [Act.put, List.setIfInBounds_toArray, List.set_cons_zero, List.set_cons_succ]
      refine takeV 22 rfl (by intro w h; clear h; go_simp; try with_reducible rfl) (by kernel_rfl) (by kernel_rfl) (by kernel_rfl) (by exact fun _ _ _ h => h) (by rfl) (by assumption) ?_
      try simp only [Act.put, List.setIfInBounds_toArray, List.set_cons_zero, List.set_cons_succ]
      refine wpAnyH_done (by kernel_rfl) ?_ _
      clear hHeld
      replace H := H.call hb
      clear hb X1 X2 X3
      go_wp2
      go_roundw
      case rel => exact ⟨j + 1, by omega, by go_num, H⟩
      case measure => simp [intOf]; omega
    · obtain rfl : j = n := by omega
      have hji : ¬ (j : Int) < j := by omega
      go_wp2
      go_ret
      exact ⟨rfl, H.below⟩

end Go.Proofs.Ytpmgklmgaienhaa
