/- The law MeterAlike, walked. -/
import Derived.Test.YtpmgklmgaienhaaLawMAl
namespace Go.Proofs.Ytpmgklmgaienhaa
open Go.RowKit
set_option linter.unusedVariables false
set_option maxRecDepth 100000

theorem cmp_ne {a b : Int} (h : a ≠ b) : ∃ oc : Ordering, compare a b = oc ∧ (some oc != some Ordering.eq) = true := by
  rcases Int.lt_or_le a b with h1 | h1
  · exact ⟨_, cmp_lt h1, rfl⟩
  · exact ⟨_, cmp_gt (show b < a by omega), rfl⟩
theorem load_guard_al {P : Program} {ops : Array Oper} {rest : List Oper} {o : Oper} {a : Act} {w : World} {Q : Exit → Act → World → Prop} (hw : Region.wanted o (yielded ops a.tmps) = true) (ty : TypeId) (x : Operand) (ho : o.op = .load ty x)
    (g : Nat) (hx : a.eval x = .pointer (some ⟨g, 0, none⟩)) (t : TypeId) (cs : Array Value) (fr : Nat × Nat) (d : TypeDesc) (hg : w.heap[g]? = some (.cells cs t fr))
    (hu : P.underlying ty = some d) (hd : (match d with | .struct _ | .array _ _ => true | _ => false) = true) (hi : (P.info? ty).map (·.size) = some cs.size)
    (h : wpList P ops Q rest (a.put o.dst (.agg cs)) w) : wpList P ops Q (o :: rest) a w := by
  unfold wpList
  rw [if_pos hw]
  exact .inl (wp_load_row ty x ho g hx t cs fr d hg hu hd hi h)
theorem ask_at {r : RowM} {f : Nat → Nat × Int} (h : Asks r f) (kz : Int) (h1 : 1 ≤ kz) (h2 : kz ≤ 12) : ∃ i : Nat, (i : Int) = 2 * (kz - 1) ∧ i < 24 ∧ floatOfInt .f64 (numI r.l kz r.n) = (f i).1 ∧ Is (f i).1 ((f i).2 * 2 ^ uE) ∧ sizeO r.l kz r.n = some (f (i + 1)).1 ∧ Is (f (i + 1)).1 ((f (i + 1)).2 * 2 ^ uE) := by
  obtain ⟨j, rfl⟩ : ∃ j : Nat, kz = (j : Int) + 1 := ⟨(kz - 1).toNat, by omega⟩
  have a1 := h (2 * j) (by omega)
  have a2 := h (2 * j + 1) (by omega)
  rw [show 2 * j / 2 = j by omega, show 2 * j % 2 = 0 by omega] at a1
  rw [show (2 * j + 1) / 2 = j by omega, show (2 * j + 1) % 2 = 1 by omega] at a2
  exact ⟨2 * j, by omega, by omega, Option.some.inj a1.1, a1.2.1, a2.1, a2.2.1⟩
theorem more_fix {X : Prop} (h : Hid (True ↔ X)) : Hid (true = true ↔ X) := Lib.hid ⟨fun _ => h.out.1 trivial, fun _ => rfl⟩
theorem more_yes {kz : Int} {f g : Nat → Nat × Int} (h : true = true ↔ ∃ i : Nat, (i : Int) < 2 * (kz - 1) ∧ i < 24 ∧ (f i).2 ≠ (g i).2) : true = true ↔ ∃ i : Nat, (i : Int) < 2 * (kz + 1 - 1) ∧ i < 24 ∧ (f i).2 ≠ (g i).2 :=
  ⟨fun _ => let ⟨i, a, b, c⟩ := h.1 rfl; ⟨i, by omega, b, c⟩, fun _ => rfl⟩
theorem more_new {kz : Int} {f g : Nat → Nat × Int} {i : Nat} (h : (i : Int) < 2 * (kz + 1 - 1)) (h2 : i < 24) (h3 : (f i).2 ≠ (g i).2) : true = true ↔ ∃ i : Nat, (i : Int) < 2 * (kz + 1 - 1) ∧ i < 24 ∧ (f i).2 ≠ (g i).2 :=
  ⟨fun _ => ⟨i, h, h2, h3⟩, fun _ => rfl⟩
theorem more_no0 {kz : Int} {f g : Nat → Nat × Int} {j i : Nat} (h : false = true ↔ ∃ i : Nat, (i : Int) < 2 * (kz - 1) ∧ i < 24 ∧ (f i).2 ≠ (g i).2) (hj : (j : Int) = 2 * (kz - 1)) (h1 : (f j).2 = (g j).2) (h2 : (f (j + 1)).2 = (g (j + 1)).2) (a : (i : Int) < 2 * (kz + 1 - 1)) (b : i < 24) (c : (f i).2 ≠ (g i).2) : False := by
  have e : (i : Int) < 2 * (kz - 1) ∨ i = j ∨ i = j + 1 := by omega
  rcases e with e | e | e
  · exact absurd (h.2 ⟨i, e, b, c⟩) (by simp)
  · exact c (by rw [e]; exact h1)
  · exact c (by rw [e]; exact h2)
theorem more_no {kz : Int} {f g : Nat → Nat × Int} {j : Nat} (h : false = true ↔ ∃ i : Nat, (i : Int) < 2 * (kz - 1) ∧ i < 24 ∧ (f i).2 ≠ (g i).2) (hj : (j : Int) = 2 * (kz - 1)) (h1 : (f j).2 = (g j).2) (h2 : (f (j + 1)).2 = (g (j + 1)).2) :
    false = true ↔ ∃ i : Nat, (i : Int) < 2 * (kz + 1 - 1) ∧ i < 24 ∧ (f i).2 ≠ (g i).2 :=
  ⟨fun h => (by cases h), fun ⟨i, a, b, c⟩ => (more_no0 h hj h1 h2 a b c).elim⟩
set_option maxHeartbeats 4000000 in
theorem meterAlike_walk (A : Option Addr) (n c : Nat) (l : List RunT) (B : Option Addr) (m d : Nat) (l2 : List RunT) (x y : Int) (w : World) (hA : Rd w 3 A n (runsV l)) (hn : n * 24 ≤ 140737488351232) (hcA : n ≤ c ∧ ∀ r ∈ l, RunOk r) (hB : Rd w 3 B m (runsV l2)) (hm : m * 24 ≤ 140737488351232) (hcB : m ≤ d ∧ ∀ r ∈ l2, RunOk r) (hx1 : -9223372036854775808 ≤ x) (hx2 : x ≤ 9223372036854775807) (hy1 : -9223372036854775808 ≤ y) (hy2 : y ≤ 9223372036854775807) :
    Calls Try.prog 7 #[.slice A n c, .slice B m d, .int .i64 x, .int .i64 y] w fun e w' => e = .returned (.bool true) ∧ Below w.heap.size w w' := by
  have H := St.start_lay w []
  have RA := Lib.hid hA
  have RB := Lib.hid hB
  have OA := Lib.hid hcA.2
  have OB := Lib.hid hcB.2
  have hn5 : n ≤ 5864062014634 := by omega
  have hm5 : m ≤ 5864062014634 := by omega
  clear hA hB hcA hcB hn hm
  go_enter Try.func7, Try.ntmps7
  go_wp2_with fail
  refine (lives29_s w).mono ?_
  rintro e w1 ⟨rfl, hb⟩
  replace H := H.call hb
  clear hb
  go_wp2_with fail
  refine (fits_s A n c l w1 (H.arg0 RA.out) OA.out hn5).mono ?_
  rintro e w2 ⟨b1, rfl, HF1, hb⟩
  replace H := H.call hb
  clear hb
  go_wp2_with fail
  refine (fits_s B m d l2 w2 (H.arg0 RB.out) OB.out hm5).mono ?_
  rintro e w3 ⟨b2, rfl, HF2, hb⟩
  replace H := H.call hb
  clear hb
  cases b1 with
  | false =>
    go_wp2
    go_ret
    exact ⟨rfl, H.below⟩
  | true =>
  cases b2 with
  | false =>
    go_wp2
    go_ret
    exact ⟨rfl, H.below⟩
  | true =>
  have FA := Lib.hid (HF1.out rfl)
  have FB := Lib.hid (HF2.out rfl)
  obtain ⟨f, hf⟩ := asks_of FA.out
  obtain ⟨g, hg⟩ := asks_of FB.out
  have AF := Lib.hid hf
  have AG := Lib.hid hg
  clear HF1 HF2 hf hg
  go_wp2_with fail
  refine (pick_any x 39 w3 hx1 hx2 (by omega) (by omega) rfl).mono ?_
  rintro e w4 ⟨⟨q1, hq1, -, rfl⟩, rfl⟩
  obtain ⟨N, hN⟩ : ∃ N, 2 + q1 = N := ⟨_, rfl⟩
  have wN : IntKind.i64.wrap (2 + (q1 : Int)) = (N : Int) := by rw [IntWalk.i64_in _ (by omega)]; omega
  have hN2 : 2 ≤ N := by omega
  have hN3 : N ≤ 40 := by omega
  go_wp2_with fail
  refine (pick_any y 39 w3 hy1 hy2 (by omega) (by omega) rfl).mono ?_
  rintro e w4 ⟨⟨q2, hq2, -, rfl⟩, rfl⟩
  obtain ⟨M, hM⟩ : ∃ M, 2 + q2 = M := ⟨_, rfl⟩
  have wM : IntKind.i64.wrap (2 + (q2 : Int)) = (M : Int) := by rw [IntWalk.i64_in _ (by omega)]; omega
  have hM2 : 2 ≤ M := by omega
  have hM3 : M ≤ 40 := by omega
  clear hN hM
  go_wp2_with fail
  refine (heap_s (⟨A, n, c, l⟩ : RowM) N w3 (by omega) rfl).mono ?_
  rintro e w4 ⟨v1, rfl, ho, hb⟩
  replace H := (H.pushRow 0 rfl hb ho).push_mk rfl
  clear hb ho wN
  obtain ⟨A1, c1, hv, -, -⟩ := row_form (H.row 0 rfl)
  subst hv
  go_wp2_with fail
  refine (heap_s (⟨A, n, c, l⟩ : RowM) M w4 (by omega) rfl).mono ?_
  rintro e w5 ⟨v2, rfl, ho, hb⟩
  replace H := (H.pushRow 1 rfl hb ho).push_mk rfl
  clear hb ho wM
  obtain ⟨A2, c2, hv, -, -⟩ := row_form (H.row 1 rfl)
  subst hv
  go_wp2_with fail
  refine (judge_a A1 N c1 (List.replicate N (⟨A, n, c, l⟩ : RowM)) A2 M c2 (List.replicate M (⟨A, n, c, l⟩ : RowM)) w5 (H.rd 0 rfl) (H.rd 1 rfl) (RowsOk.rep (H.arg0 RA.out) hn5 OA.out N) (RowsOk.rep (H.arg0 RA.out) hn5 OA.out M) (by omega) (by omega)).mono ?_
  rintro e w6 ⟨V, rfl, HV, hb⟩
  have hV : V = zeroV := by
    refine ver_zero' HV.out ?_
    rcases st_two AF.out AF.out hN2 (by omega) hM2 (by omega) with ⟨h, -⟩ | ⟨k, s, T, -, -, -, i, -, hne⟩
    · rw [h]
    · exact absurd rfl hne
  rw [judgeE_rep FA.out.1 FA.out.1 hN2 hM2, hV]
  unfold zeroV
  replace H := (H.call hb).front 0
  replace H : St w [] w6 (lay []) := H
  clear hb HV hV
  have hst := fun (a : Addr) (b : Nat) (m : Mode) (w : World) => run_store Try.prog w a (.float .f64 b) m rfl
  have HA := (H.allocAt 0 rfl w6.heap.size rfl #[.bool false, .int .u8 0, .bool false, .float .f64 0, .int .i64 0, .float .f64 0] 45).push_mk rfl
  go_upto_region 10 with (fail)
  refine absorb_wp HA ?_
  clear H HA
  intro w7 H
  generalize w6.heap.size = g11 at H ⊢
  replace H : St w [] w7 (lay [.blk g11 45 [.bool false, .int .u8 0, .bool false, .float .f64 0, .int .i64 0, .float .f64 0]]) := H
  go_wp2_with fail
  refine (heap_s (⟨A, n, c, l⟩ : RowM) N w7 (by omega) rfl).mono ?_
  rintro e w8 ⟨v1, rfl, ho, hb⟩
  replace H := (H.pushRow 1 rfl hb ho).push_mk rfl
  clear hb ho
  obtain ⟨A1, c1, hv, -, -⟩ := row_form (H.row 1 rfl)
  subst hv
  go_wp2_with fail
  refine (heap_s (⟨B, m, d, l2⟩ : RowM) M w8 (by omega) rfl).mono ?_
  rintro e w9 ⟨v2, rfl, ho, hb⟩
  replace H := (H.pushRow 2 rfl hb ho).push_mk rfl
  clear hb ho
  obtain ⟨A2, c2, hv, -, -⟩ := row_form (H.row 2 rfl)
  subst hv
  go_wp2_with fail
  refine (judge_a A1 N c1 (List.replicate N (⟨A, n, c, l⟩ : RowM)) A2 M c2 (List.replicate M (⟨B, m, d, l2⟩ : RowM)) w9 (H.rd 1 rfl) (H.rd 2 rfl) (RowsOk.rep (H.arg0 RA.out) hn5 OA.out N) (RowsOk.rep (H.arg0 RB.out) hm5 OB.out M) (by omega) (by omega)).mono ?_
  rintro e w10 ⟨V, rfl, HV, hb⟩
  have hJ := judgeE_rep FA.out.1 FB.out.1 hN2 hM2
  have hTwo := st_two AF.out AG.out hN2 (by omega) hM2 (by omega)
  rw [hJ]
  have HVV : Hid ((V = zeroV ∧ ∀ i, i < 24 → (f i).2 = (g i).2) ∨ ∃ (k : Int) (s : Bool) (T : Nat) (bt : Int) (P : Nat), V = [.bool true, .int .u8 k, .bool s, .float .f64 T, .int .i64 bt, .float .f64 P] ∧ k ≠ 0 ∧ (T = 9218868437227405312 ∨ T = 18442240474082181120) ∧ ∃ i, i < 24 ∧ (f i).2 ≠ (g i).2) := by
    rcases hTwo with ⟨h1, h2⟩ | ⟨k, s, T, h1, h2, h3, h4⟩
    · left; exact ⟨ver_zero' HV.out (by rw [h1]), h2⟩
    · right
      obtain ⟨P, hP⟩ := ver_yes' HV.out hJ (by rw [h1]; exact h2)
      rw [h1] at hP
      unfold verV at hP
      rw [(inf_apart h3).1] at hP
      exact ⟨k, s, T, _, P, hP, h2, h3, h4⟩
  replace H := (H.call hb).front 1
  replace H : St w [] w10 (lay [.blk g11 45 [.bool false, .int .u8 0, .bool false, .float .f64 0, .int .i64 0, .float .f64 0]]) := H
  clear hb HV hJ hTwo
  rcases HVV.out with ⟨hV, heq⟩ | ⟨kk, ss, T, bt, P, hV, hk0, hT, hne⟩
  · subst hV
    unfold zeroV
    have HEQ := Lib.hid heq
    clear heq HVV
    have HA := (H.allocAt 1 rfl w10.heap.size rfl #[.bool false, .int .u8 0, .bool false, .float .f64 0, .int .i64 0, .float .f64 0] 45).push_mk rfl
    go_upto_region 11 with (fail)
    refine absorb_wp HA ?_
    clear H HA hst
    intro w11 H
    generalize w10.heap.size = g13 at H ⊢
    replace H : St w [] w11 (lay [.blk g11 45 [.bool false, .int .u8 0, .bool false, .float .f64 0, .int .i64 0, .float .f64 0], .blk g13 45 [.bool false, .int .u8 0, .bool false, .float .f64 0, .int .i64 0, .float .f64 0]]) := H
    have q00 : FloatKind.f64.format.order 0 0 = some Ordering.eq := by decide +kernel
    have hq0 := eq_zero_al
    have hbk := H.blk 0 rfl
    go_wp2_with (first | (refine load_guard_al (by rfl) 45 (.tmp 11) rfl g11 rfl _ _ _ _ hbk Try.underlying45 rfl ver_size ?_) | (refine wpList_load_row rfl 45 (.tmp 11) rfl g11 rfl _ _ _ _ hbk Try.underlying45 rfl ver_size ?_) | fail)
    clear hbk
    go_loopw [15, 16] (fun v u wr => ∃ (kz : Int) (b : Bool), 1 ≤ kz ∧ kz ≤ 13 ∧ v = .bool b ∧ u = .int .u8 kz ∧ Hid (b = true ↔ ∃ i : Nat, (i : Int) < 2 * (kz - 1) ∧ i < 24 ∧ (f i).2 ≠ (g i).2) ∧ St w [] wr (lay [.blk g11 45 [.bool false, .int .u8 0, .bool false, .float .f64 0, .int .i64 0, .float .f64 0], .blk g13 45 [.bool false, .int .u8 0, .bool false, .float .f64 0, .int .i64 0, .float .f64 0]])) (fun _ u _ => 13 - (intOf u).toNat)
    case atStart => exact ⟨1, false, by omega, by omega, rfl, rfl, ⟨fun h => (by cases h), fun ⟨i, h, _⟩ => (by omega)⟩, H⟩
    case round =>
      clear H
      obtain ⟨kz, b, hk1, hk2, rfl, rfl, HB, H⟩ := hrel
      by_cases hlt : kz ≤ 12
      · have w1 : IntKind.u8.wrap (kz + 1) = kz + 1 := IntWalk.u8_in _ (by omega)
        cases b with
        | true =>
          have HB2 := Lib.hid (more_yes (kz := kz) HB.out)
          go_wp2
          go_roundw
          case rel => exact ⟨kz + 1, true, by omega, by omega, rfl, rfl, HB2, H⟩
          case measure => simp [intOf]; omega
        | false =>
          obtain ⟨i0, hi0, hi1, ea, ia, sa, ja⟩ := ask_at AF.out kz hk1 hlt
          obtain ⟨i0', hi0', -, eb, ib, sb, jb⟩ := ask_at AG.out kz hk1 hlt
          obtain rfl : i0' = i0 := by omega
          have SA := Lib.hid sa
          have SB := Lib.hid sb
          have JA := Lib.hid ja
          have JB := Lib.hid jb
          have HI := Lib.hid hi0
          have HI1 := Lib.hid hi1
          clear hi0' sa sb ja jb hi0 hi1
          go_wp2_with fail
          refine (number_s A n c l kz wr (H.arg0 RA.out) OA.out hn5).mono ?_
          rintro e w12 ⟨rfl, hb⟩
          replace H := H.call hb
          clear hb
          have EA : floatOfInt .f64 (numI l kz n) = (f i0').1 := ea
          rw [EA]
          go_wp2_with fail
          refine (number_s B m d l2 kz w12 (H.arg0 RB.out) OB.out hm5).mono ?_
          rintro e w13 ⟨rfl, hb⟩
          replace H := H.call hb
          clear hb
          have EB : floatOfInt .f64 (numI l2 kz m) = (g i0').1 := eb
          rw [EB]
          clear EA EB ea eb
          have o1 := orderW ia ib
          clear ia ib
          generalize hfa : (f i0').1 = fa at o1 ⊢
          generalize hga : (g i0').1 = ga at o1 ⊢
          clear hfa hga
          by_cases c1 : (f i0').2 = (g i0').2
          · rw [c1, cmp_eq] at o1
            have C1 := Lib.hid c1
            clear c1
            go_wp2_with fail
            refine (size_a A n c l kz w13 (H.arg0 RA.out) hn5).mono ?_
            rintro e w14 ⟨r1, rfl, HS1, hb⟩
            replace H := H.call hb
            clear hb
            obtain rfl : r1 = (f (i0' + 1)).1 := (absF_s (by rw [HS1.out]; exact SA.out)).1
            go_wp2_with fail
            refine (size_a B m d l2 kz w14 (H.arg0 RB.out) hm5).mono ?_
            rintro e w15 ⟨r2, rfl, HS2, hb⟩
            replace H := H.call hb
            clear hb
            obtain rfl : r2 = (g (i0' + 1)).1 := (absF_s (by rw [HS2.out]; exact SB.out)).1
            have o2 := orderW JA.out JB.out
            clear HS1 HS2
            generalize hfa : (f (i0' + 1)).1 = fa2 at o2 ⊢
            generalize hga : (g (i0' + 1)).1 = ga2 at o2 ⊢
            clear hfa hga
            by_cases c2 : (f (i0' + 1)).2 = (g (i0' + 1)).2
            · rw [c2, cmp_eq] at o2
              have HB2 := Lib.hid (more_no (kz := kz) HB.out HI.out C1.out c2)
              clear c2
              go_wp2
              go_roundw
              case rel => exact ⟨kz + 1, false, by omega, by omega, rfl, rfl, HB2, H⟩
              case measure => simp [intOf]; omega
            · obtain ⟨oc, hoc, hne⟩ := cmp_ne c2
              rw [hoc] at o2
              have HB2 := Lib.hid (more_new (kz := kz) (i := i0' + 1) (f := f) (g := g) (by have := HI.out; omega) (by have := HI.out; omega) c2)
              clear c2 hoc
              go_wp2
              go_roundw
              case rel => exact ⟨kz + 1, true, by omega, by omega, rfl, rfl, more_fix HB2, H⟩
              case measure => simp [intOf]; omega
          · obtain ⟨oc, hoc, hne⟩ := cmp_ne c1
            rw [hoc] at o1
            have HB2 := Lib.hid (more_new (kz := kz) (i := i0') (f := f) (g := g) (by have := HI.out; omega) HI1.out c1)
            clear c1 hoc
            go_wp2
            go_roundw
            case rel => exact ⟨kz + 1, true, by omega, by omega, rfl, rfl, more_fix HB2, H⟩
            case measure => simp [intOf]; omega
      · obtain rfl : kz = 13 := by omega
        have hbk := H.blk 1 rfl
        have h0 := H.cell 1 rfl (o := 0) rfl
        have h1 := H.cell 1 rfl (o := 1) rfl
        have h3 := H.cell 1 rfl (o := 3) rfl
        obtain rfl : b = false := by cases b with
    | false => rfl
    | true => obtain ⟨i, -, h2, h3⟩ := HB.out.1 rfl; exact absurd (HEQ.out i h2) h3
        clear h0 h1 h3
        have q00 : FloatKind.f64.format.order 0 0 = some Ordering.eq := by decide +kernel
        have hq0 := eq_zero_al
        go_wp2_with (first | (refine wpList_load_row rfl 45 (.tmp 13) rfl g13 rfl _ _ _ _ hbk Try.underlying45 rfl ver_size ?_) | fail)
        go_ret
        exact ⟨rfl, H.below⟩
  · subst hV
    have HNE := Lib.hid hne
    clear hne HVV
    have HA := (H.allocAt 1 rfl w10.heap.size rfl #[.bool true, .int .u8 kk, .bool ss, .float .f64 T, .int .i64 bt, .float .f64 P] 45).push_mk rfl
    go_upto_region 11 with (fail)
    refine absorb_wp HA ?_
    clear H HA hst
    intro w11 H
    generalize w10.heap.size = g13 at H ⊢
    replace H : St w [] w11 (lay [.blk g11 45 [.bool false, .int .u8 0, .bool false, .float .f64 0, .int .i64 0, .float .f64 0], .blk g13 45 [.bool true, .int .u8 kk, .bool ss, .float .f64 T, .int .i64 bt, .float .f64 P]]) := H
    have q00 : FloatKind.f64.format.order 0 0 = some Ordering.eq := by decide +kernel
    have hq0 := eq_zero_al
    have hbk := H.blk 0 rfl
    go_wp2_with (first | (refine load_guard_al (by rfl) 45 (.tmp 11) rfl g11 rfl _ _ _ _ hbk Try.underlying45 rfl ver_size ?_) | (refine wpList_load_row rfl 45 (.tmp 11) rfl g11 rfl _ _ _ _ hbk Try.underlying45 rfl ver_size ?_) | fail)
    clear hbk
    go_loopw [15, 16] (fun v u wr => ∃ (kz : Int) (b : Bool), 1 ≤ kz ∧ kz ≤ 13 ∧ v = .bool b ∧ u = .int .u8 kz ∧ Hid (b = true ↔ ∃ i : Nat, (i : Int) < 2 * (kz - 1) ∧ i < 24 ∧ (f i).2 ≠ (g i).2) ∧ St w [] wr (lay [.blk g11 45 [.bool false, .int .u8 0, .bool false, .float .f64 0, .int .i64 0, .float .f64 0], .blk g13 45 [.bool true, .int .u8 kk, .bool ss, .float .f64 T, .int .i64 bt, .float .f64 P]])) (fun _ u _ => 13 - (intOf u).toNat)
    case atStart => exact ⟨1, false, by omega, by omega, rfl, rfl, ⟨fun h => (by cases h), fun ⟨i, h, _⟩ => (by omega)⟩, H⟩
    case round =>
      clear H
      obtain ⟨kz, b, hk1, hk2, rfl, rfl, HB, H⟩ := hrel
      by_cases hlt : kz ≤ 12
      · have w1 : IntKind.u8.wrap (kz + 1) = kz + 1 := IntWalk.u8_in _ (by omega)
        cases b with
        | true =>
          have HB2 := Lib.hid (more_yes (kz := kz) HB.out)
          go_wp2
          go_roundw
          case rel => exact ⟨kz + 1, true, by omega, by omega, rfl, rfl, HB2, H⟩
          case measure => simp [intOf]; omega
        | false =>
          obtain ⟨i0, hi0, hi1, ea, ia, sa, ja⟩ := ask_at AF.out kz hk1 hlt
          obtain ⟨i0', hi0', -, eb, ib, sb, jb⟩ := ask_at AG.out kz hk1 hlt
          obtain rfl : i0' = i0 := by omega
          have SA := Lib.hid sa
          have SB := Lib.hid sb
          have JA := Lib.hid ja
          have JB := Lib.hid jb
          have HI := Lib.hid hi0
          have HI1 := Lib.hid hi1
          clear hi0' sa sb ja jb hi0 hi1
          go_wp2_with fail
          refine (number_s A n c l kz wr (H.arg0 RA.out) OA.out hn5).mono ?_
          rintro e w12 ⟨rfl, hb⟩
          replace H := H.call hb
          clear hb
          have EA : floatOfInt .f64 (numI l kz n) = (f i0').1 := ea
          rw [EA]
          go_wp2_with fail
          refine (number_s B m d l2 kz w12 (H.arg0 RB.out) OB.out hm5).mono ?_
          rintro e w13 ⟨rfl, hb⟩
          replace H := H.call hb
          clear hb
          have EB : floatOfInt .f64 (numI l2 kz m) = (g i0').1 := eb
          rw [EB]
          clear EA EB ea eb
          have o1 := orderW ia ib
          clear ia ib
          generalize hfa : (f i0').1 = fa at o1 ⊢
          generalize hga : (g i0').1 = ga at o1 ⊢
          clear hfa hga
          by_cases c1 : (f i0').2 = (g i0').2
          · rw [c1, cmp_eq] at o1
            have C1 := Lib.hid c1
            clear c1
            go_wp2_with fail
            refine (size_a A n c l kz w13 (H.arg0 RA.out) hn5).mono ?_
            rintro e w14 ⟨r1, rfl, HS1, hb⟩
            replace H := H.call hb
            clear hb
            obtain rfl : r1 = (f (i0' + 1)).1 := (absF_s (by rw [HS1.out]; exact SA.out)).1
            go_wp2_with fail
            refine (size_a B m d l2 kz w14 (H.arg0 RB.out) hm5).mono ?_
            rintro e w15 ⟨r2, rfl, HS2, hb⟩
            replace H := H.call hb
            clear hb
            obtain rfl : r2 = (g (i0' + 1)).1 := (absF_s (by rw [HS2.out]; exact SB.out)).1
            have o2 := orderW JA.out JB.out
            clear HS1 HS2
            generalize hfa : (f (i0' + 1)).1 = fa2 at o2 ⊢
            generalize hga : (g (i0' + 1)).1 = ga2 at o2 ⊢
            clear hfa hga
            by_cases c2 : (f (i0' + 1)).2 = (g (i0' + 1)).2
            · rw [c2, cmp_eq] at o2
              have HB2 := Lib.hid (more_no (kz := kz) HB.out HI.out C1.out c2)
              clear c2
              go_wp2
              go_roundw
              case rel => exact ⟨kz + 1, false, by omega, by omega, rfl, rfl, HB2, H⟩
              case measure => simp [intOf]; omega
            · obtain ⟨oc, hoc, hne⟩ := cmp_ne c2
              rw [hoc] at o2
              have HB2 := Lib.hid (more_new (kz := kz) (i := i0' + 1) (f := f) (g := g) (by have := HI.out; omega) (by have := HI.out; omega) c2)
              clear c2 hoc
              go_wp2
              go_roundw
              case rel => exact ⟨kz + 1, true, by omega, by omega, rfl, rfl, more_fix HB2, H⟩
              case measure => simp [intOf]; omega
          · obtain ⟨oc, hoc, hne⟩ := cmp_ne c1
            rw [hoc] at o1
            have HB2 := Lib.hid (more_new (kz := kz) (i := i0') (f := f) (g := g) (by have := HI.out; omega) HI1.out c1)
            clear c1 hoc
            go_wp2
            go_roundw
            case rel => exact ⟨kz + 1, true, by omega, by omega, rfl, rfl, more_fix HB2, H⟩
            case measure => simp [intOf]; omega
      · obtain rfl : kz = 13 := by omega
        have hbk := H.blk 1 rfl
        have h0 := H.cell 1 rfl (o := 0) rfl
        have h1 := H.cell 1 rfl (o := 1) rfl
        have h3 := H.cell 1 rfl (o := 3) rfl
        obtain rfl : b = true := HB.out.2 (by obtain ⟨i, h2, h3⟩ := HNE.out; exact ⟨i, by omega, h2, h3⟩)
        clear hbk
        have hk0b : (kk != 0) = true := bne_iff_ne.2 hk0
        go_wp2_with fail
        refine (isInf_s T wr (inf_apart hT).2.1 (inf_apart hT).2.2).mono ?_
        rintro e w16 ⟨rfl, rfl⟩
        go_wp2
        go_ret
        exact ⟨rfl, H.below⟩

end Go.Proofs.Ytpmgklmgaienhaa
