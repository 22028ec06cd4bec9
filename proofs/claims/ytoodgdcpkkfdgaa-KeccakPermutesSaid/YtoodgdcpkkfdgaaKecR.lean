/- The document's permutation: lane, turn and a round, walked. -/
import Derived.Test.YtoodgdcpkkfdgaaKecW
namespace Go.Proofs.Ytoodgdcpkkfdgaa
open Go.RowKit
set_option linter.unusedVariables false

theorem lane_i (x y : Int) (w : World) (h1 : 0 ≤ x) (h2 : x ≤ 1000) (h3 : 0 ≤ y) (h4 : y ≤ 1000) :
    Calls Try.prog 35 #[.int .i64 x, .int .i64 y] w fun e w' => e = .returned (.int .i64 (x % 5 + 5 * (y % 5))) ∧ w = w' := by
  go_enter Try.func35, Try.ntmps35
  go_wp2
  go_ret
  exact ⟨rfl, rfl⟩
theorem lane_q (x y : Int) (w : World) (q : Nat) (h1 : 0 ≤ x) (h2 : x ≤ 1000) (h3 : 0 ≤ y) (h4 : y ≤ 1000) :
    Calls Try.prog 35 #[.int .i64 x, .int .i64 y] (w.drewN q) fun e w' => e = .returned (.int .i64 (x % 5 + 5 * (y % 5))) ∧ ∃ m, w' = w.drewN m :=
  (lane_i x y _ h1 h2 h3 h4).mono fun _ _ h => ⟨h.1, q, h.2.symm⟩

set_option maxHeartbeats 400000 in
theorem turn_r (x : UInt64) (n : Nat) (w : World) (hn : n ≤ 1000) :
    Calls Try.prog 36 #[.int .u64 (x.toNat : Int), .int .i64 (n : Int)] w fun e w' => e = .returned (.int .u64 ((rotl x n).toNat : Int)) ∧ ∃ q, w' = w.drewN q := by
  have HR := Lib.hid (rot_bits_64 x.toNat (n % 64) (Nat.mod_lt _ (by omega)) x.toNat_lt)
  have HT := Lib.hid (rotl_toNat x n)
  generalize hX : x.toNat = X at *
  have hX' : X < 18446744073709551616 := by rw [← hX]; exact x.toNat_lt
  clear hX
  obtain ⟨m, hm⟩ : ∃ m : Nat, m = n % 64 := ⟨_, rfl⟩
  have he : (n : Int) % 64 = (m : Int) := by omega
  have hm' : m < 64 := by omega
  rw [← hm] at HR HT
  clear hm
  go_enter Try.func36, Try.ntmps36
  go_wp2
  go_quiet (fail)
  go_wp2
  go_ret
  refine ⟨ret_int ?_, nq, rfl⟩
  rw [IntKind.wrap_u64, HR.out, HT.out]
theorem turnr_q (x : UInt64) (n : Nat) (w : World) (q : Nat) (hn : n ≤ 1000) :
    Calls Try.prog 36 #[.int .u64 (x.toNat : Int), .int .i64 (n : Int)] (w.drewN q) fun e w' => e = .returned (.int .u64 ((rotl x n).toNat : Int)) ∧ ∃ m, w' = w.drewN m :=
  (turn_r x n _ hn).mono fun _ _ ⟨h, m, h'⟩ => ⟨h, q + m, by rw [h', World.drewN_drewN]⟩
theorem turnr_at (x : UInt64) (m : Int) (n : Nat) (h : m = (n : Int)) (hn : n ≤ 1000) (w : World) : Calls Try.prog 36 #[.int .u64 (x.toNat : Int), .int .i64 m] w fun e w' => e = .returned (.int .u64 ((rotl x n).toNat : Int)) ∧ ∃ q, w' = w.drewN q := by
  subst h; exact turn_r x n w hn
theorem state24_size : (Try.prog.info? 24).map (·.size) = some 25 := by kernel_rfl
theorem rColY_length (a : List UInt64) (x : Nat) (p : List UInt64) (k : Nat) : (rColY a x p k).length = p.length := iter_length _ _ (fun _ _ => by simp) _
theorem rCol_length (a : List UInt64) (k : Nat) : (rCol a k).length = 5 := by unfold rCol; rw [iter_length _ _ (fun l x => rColY_length a x l 5)]; simp
theorem rMixY_length (d : UInt64) (x : Nat) (a : List UInt64) (k : Nat) : (rMixY d x a k).length = a.length := iter_length _ _ (fun _ _ => by simp) _
theorem rMix_length (p a : List UInt64) (k : Nat) : (rMix p a k).length = a.length := iter_length _ _ (fun l x => rMixY_length _ x l 5) _
theorem rWalk_length (a : List UInt64) (k : Nat) : (rWalk a k).length = 25 := by unfold rWalk; rw [iter_length _ _ (fun _ _ => by simp)]; simp
theorem rChiY_length (b : List UInt64) (x : Nat) (a : List UInt64) (k : Nat) : (rChiY b x a k).length = a.length := iter_length _ _ (fun _ _ => by simp) _
theorem rChi_length (b a : List UInt64) (k : Nat) : (rChi b a k).length = a.length := iter_length _ _ (fun l x => rChiY_length b x l 5) _

theorem andNot64 (x y : UInt64) : bits .andNot .u64 (x.toNat : Int) (y.toNat : Int) = ((~~~y &&& x).toNat : Int) := by
  rw [u64_andNot_nat _ _ x.toNat_lt y.toNat_lt, UInt64.toNat_and, UInt64.toNat_not, Nat.and_comm]
  rfl
theorem there_eq {w : World} {b o n m : Nat} (h : w.there b o n) (e : n = m) : w.there b o m := e ▸ h
theorem tri_le (k : Nat) (h : k < 24) : (k + 1) * (k + 2) / 2 ≤ 1000 := by
  have h1 : (k + 1) * (k + 2) ≤ 24 * 25 := Nat.mul_le_mul (by omega) (by omega)
  omega
theorem rCol_zero (s : List UInt64) : rCol s 0 = List.replicate 5 0 := rfl
theorem rCol_succ (s : List UInt64) (x : Nat) : rCol s (x + 1) = rColY s x (rCol s x) 5 := rfl
theorem rMix_zero (p s : List UInt64) : rMix p s 0 = s := rfl
theorem rMix_succ (P s : List UInt64) (x : Nat) : rMix P s (x + 1) = rMixY (at64 P ((x + 4) % 5) ^^^ rotl (at64 P ((x + 1) % 5)) 1) x (rMix P s x) 5 := rfl
theorem rWalk_zero (A : List UInt64) : rWalk A 0 = (List.replicate 25 0).set 0 (at64 A 0) := rfl
theorem rWalk_succ (A : List UInt64) (k : Nat) : rWalk A (k + 1) = (rWalk A k).set (rLane (kPlace k).2 (2 * (kPlace k).1 + 3 * (kPlace k).2)) (rotl (at64 A (rLane (kPlace k).1 (kPlace k).2)) ((k + 1) * (k + 2) / 2)) := rfl
theorem rChi_zero (b a : List UInt64) : rChi b a 0 = a := rfl
theorem rChi_succ (b a : List UInt64) (x : Nat) : rChi b a (x + 1) = rChiY b x (rChi b a x) 5 := rfl
theorem kPlace_zero : kPlace 0 = (1, 0) := rfl
theorem kPlace_succ (k : Nat) : kPlace (k + 1) = ((kPlace k).2, (2 * (kPlace k).1 + 3 * (kPlace k).2) % 5) := rfl
theorem rRound_def (s : List UInt64) (c : UInt64) : rRound s c = (rChi (rWalk (rMix (rCol s 5) s 5) 24) (rMix (rCol s 5) s 5) 5).set 0 (at64 (rChi (rWalk (rMix (rCol s 5) s 5) 24) (rMix (rCol s 5) s 5) 5) 0 ^^^ c) := rfl
attribute [local irreducible] rCol rMix rWalk rChi rRound kPlace

set_option maxRecDepth 100000 in
set_option maxHeartbeats 4000000 in
theorem round_s (s : List UInt64) (c : UInt64) (hs : s.length = 25) (w : World) :
    Calls Try.prog 28 #[.agg (s.map u64v).toArray, .int .u64 (c.toNat : Int)] w fun e w' => e = .returned (.agg ((rRound s c).map u64v).toArray) ∧ Below w.heap.size w w' := by
  have HS := Lib.hid hs
  clear hs
  go_enter Try.func28, Try.ntmps28
  go_wp2
  refine absorb_wp (St.start_lay w [] |>.allocAt 0 rfl w.heap.size rfl _ _ |>.push_mk rfl |>.allocAt 1 rfl (w.heap.size + 1) (by simp) _ _ |>.push_mk rfl |>.allocAt 2 rfl (w.heap.size + 1 + 1) (by simp) _ _ |>.push_mk rfl) ?_
  intro w3 H3
  generalize w.heap.size + 1 + 1 = g3 at H3 ⊢
  generalize w.heap.size + 1 = g2 at H3 ⊢
  generalize w.heap.size = g1 at H3 ⊢
  go_loopw [6] (fun i wr => ∃ k : Nat, k ≤ 5 ∧ i = .int .i64 k ∧ St w [] wr (lay [.blk g1 24 (s.map u64v), .blk g2 24 ((List.replicate 25 0).map u64v), .blk g3 68 ((rCol s k).map u64v)])) (fun i _ => 5 - (intOf i).toNat)
  case atStart => exact ⟨0, by omega, rfl, by rw [rCol_zero]; exact H3⟩
  case round =>
    clear H3
    obtain ⟨x, hx, rfl, Hx⟩ := hrel
    by_cases hlt : x < 5
    · have HE := Lib.hid (rCol_succ s x)
      have HL := Lib.hid (rCol_length s x)
      generalize rCol s x = p at *
      have hx1 : (x : Int) < 5 := by omega
      go_wp2
      go_loopw [7] (fun j wr => ∃ y : Nat, y ≤ 5 ∧ j = .int .i64 y ∧ St w [] wr (lay [.blk g1 24 (s.map u64v), .blk g2 24 ((List.replicate 25 0).map u64v), .blk g3 68 ((rColY s x p y).map u64v)])) (fun j _ => 5 - (intOf j).toNat)
      case atStart => exact ⟨0, by omega, rfl, Hx⟩
      case round =>
        clear Hx
        obtain ⟨y, hy, rfl, Hy⟩ := hrel
        by_cases hly : y < 5
        · have hy1 : (y : Int) < 5 := by omega
          have a0 := Hy.cell 0 rfl (u64_get (k := x % 5 + 5 * (y % 5)) (by rw [HS.out]; omega))
          have b0 := Hy.cell 2 rfl (u64_get (k := x) (by rw [rColY_length, HL.out]; exact hlt))
          have bf := Hy.free 2 rfl x
          go_wp2
          refine region_quiet_tail 11 (by kernel_rfl) (by kernel_rfl) ?_
          simp only [List.take_succ_cons, List.take_zero, List.drop_succ_cons, List.drop_zero]
          repeat (go_big_quiet_step ((go_at_call 35; exact lane_q _ _ _ _ (by omega) (by omega) (by omega) (by omega))))
          refine wpQuiet_nil ?_
          intro nq
          go_wp2
          go_roundw
          case rel => exact ⟨y + 1, by omega, by go_num, by rw [xor64]; exact by have h := ((Hy.drewN nq).store 2 rfl (o := x) (u := u64v (at64 (rColY s x p y) x ^^^ at64 s (x % 5 + 5 * (y % 5))))).upd_mk (by simp); rw [u64_set] at h; exact h⟩
          case measure => simp [intOf]; omega
        · obtain rfl : y = 5 := by omega
          rw [show ((5 : Nat) : Int) = 5 from rfl]
          rw [← HE.out] at Hy
          go_wp2
          go_roundw
          case rel => exact ⟨x + 1, by omega, by go_num, Hy⟩
          case measure => simp [intOf]; omega
    · obtain rfl : x = 5 := by omega
      rw [show ((5 : Nat) : Int) = 5 from rfl]
      have HPL := Lib.hid (rCol_length s 5)
      generalize hP : rCol s 5 = P at *
      have HP := Lib.hid hP
      clear hP
      go_wp2
      go_loopw [8] (fun i wr => ∃ k : Nat, k ≤ 5 ∧ i = .int .i64 k ∧ St w [] wr (lay [.blk g1 24 ((rMix P s k).map u64v), .blk g2 24 ((List.replicate 25 0).map u64v), .blk g3 68 (P.map u64v)])) (fun i _ => 5 - (intOf i).toNat)
      case atStart => exact ⟨0, by omega, rfl, by rw [rMix_zero]; exact Hx⟩
      case round =>
        clear Hx
        obtain ⟨x, hx, rfl, Hx⟩ := hrel
        by_cases hlt : x < 5
        · have HE := Lib.hid (rMix_succ P s x)
          have HL : Hid ((rMix P s x).length = 25) := by have := rMix_length P s x; rw [HS.out] at this; exact this
          generalize rMix P s x = a at *
          have hx1 : (x : Int) < 5 := by omega
          have b0 := Hx.cell 2 rfl (u64_get (k := (x + 4) % 5) (by rw [HPL.out]; omega))
          have b1 := Hx.cell 2 rfl (u64_get (k := (x + 1) % 5) (by rw [HPL.out]; omega))
          have hT := turnr_q (at64 P ((x + 1) % 5)) 1
          go_wp2
          go_quiet ((go_at_call 36; exact hT _ _ (by omega)))
          clear hT b0 b1
          rw [xor64]
          generalize at64 P ((x + 4) % 5) ^^^ rotl (at64 P ((x + 1) % 5)) 1 = d at *
          replace Hx := Hx.drewN nq
          go_wp2
          go_loopw [10] (fun j wr => ∃ y : Nat, y ≤ 5 ∧ j = .int .i64 y ∧ St w [] wr (lay [.blk g1 24 ((rMixY d x a y).map u64v), .blk g2 24 ((List.replicate 25 0).map u64v), .blk g3 68 (P.map u64v)])) (fun j _ => 5 - (intOf j).toNat)
          case atStart => exact ⟨0, by omega, rfl, Hx⟩
          case round =>
            clear Hx
            obtain ⟨y, hy, rfl, Hy⟩ := hrel
            by_cases hly : y < 5
            · have hy1 : (y : Int) < 5 := by omega
              have a0 := Hy.cell 0 rfl (u64_get (k := x % 5 + 5 * (y % 5)) (by rw [rMixY_length, HL.out]; omega))
              have af := Hy.free 0 rfl (x % 5 + 5 * (y % 5))
              go_wp2_with fail
              refine (lane_i _ _ _ (by omega) (by omega) (by omega) (by omega)).mono ?_
              rintro e w' ⟨rfl, rfl⟩
              go_wp2_with fail
              refine (lane_i _ _ _ (by omega) (by omega) (by omega) (by omega)).mono ?_
              rintro e w' ⟨rfl, rfl⟩
              go_wp2
              go_roundw
              case rel => exact ⟨y + 1, by omega, by go_num, by rw [xor64]; exact by have h := (Hy.store 0 rfl (o := x % 5 + 5 * (y % 5)) (u := u64v (at64 (rMixY d x a y) (x % 5 + 5 * (y % 5)) ^^^ d))).upd_mk (by simp); rw [u64_set] at h; exact h⟩
              case measure => simp [intOf]; omega
            · obtain rfl : y = 5 := by omega
              rw [show ((5 : Nat) : Int) = 5 from rfl]
              rw [← HE.out] at Hy
              go_wp2
              go_roundw
              case rel => exact ⟨x + 1, by omega, by go_num, Hy⟩
              case measure => simp [intOf]; omega
        · obtain rfl : x = 5 := by omega
          rw [show ((5 : Nat) : Int) = 5 from rfl]
          have HAL : Hid ((rMix P s 5).length = 25) := by have := rMix_length P s 5; rw [HS.out] at this; exact this
          generalize hA : rMix P s 5 = A at *
          have HA := Lib.hid hA
          clear hA
          have a0 := Hx.cell 0 rfl (u64_get (k := 0) (by rw [HAL.out]; omega))
          have hg := Hx.lt 0 rfl
          go_wp2
          refine absorb_wp (Hx.allocAt 3 rfl wr.heap.size rfl _ _ |>.push_mk rfl) ?_
          intro w4 H4
          clear a0 hg Hx
          generalize wr.heap.size = g4 at H4 ⊢
          go_loopw [12, 13, 14] (fun x y i wr => ∃ k : Nat, k ≤ 24 ∧ i = .int .i64 k ∧ x = .int .i64 ((kPlace k).1 : Nat) ∧ y = .int .i64 ((kPlace k).2 : Nat) ∧ St w [] wr (lay [.blk g1 24 (A.map u64v), .blk g2 24 ((List.replicate 25 0).map u64v), .blk g3 68 (P.map u64v), .blk g4 24 ((rWalk A k).map u64v)])) (fun _ _ i _ => 24 - (intOf i).toNat)
          case atStart => exact ⟨0, by omega, rfl, by rw [kPlace_zero]; rfl, by rw [kPlace_zero]; rfl, by rw [rWalk_zero]; exact H4⟩
          case round =>
            clear H4
            obtain ⟨k, hk, rfl, rfl, rfl, Hk⟩ := hrel
            by_cases hlt : k < 24
            · obtain ⟨hX, hY⟩ := kPlace_lt k
              have HE := Lib.hid (rWalk_succ A k)
              have HQ := Lib.hid (kPlace_succ k)
              generalize (kPlace k).1 = X at *
              generalize (kPlace k).2 = Y at *
              have a0 := Hk.cell 0 rfl (u64_get (k := X % 5 + 5 * (Y % 5)) (by rw [HAL.out]; omega))
              obtain ⟨u, hu⟩ : ∃ u, ((rWalk A k).map u64v)[Y % 5 + 5 * ((2 * X + 3 * Y) % 5)]? = some u := ⟨_, u64_get (by rw [rWalk_length]; omega)⟩
              have b0 := Hk.cell 3 rfl hu
              have bf := Hk.free 3 rfl (Y % 5 + 5 * ((2 * X + 3 * Y) % 5))
              clear hu
              go_wp2_with fail
              refine (lane_i _ _ _ (by omega) (by omega) (by omega) (by omega)).mono ?_
              rintro e w' ⟨rfl, rfl⟩
              go_wp2_with fail
              refine (lane_i _ _ _ (by omega) (by omega) (by omega) (by omega)).mono ?_
              rintro e w' ⟨rfl, rfl⟩
              go_wp2_with fail
              refine (turnr_at _ _ ((k + 1) * (k + 2) / 2) (tri_eq k hlt) (tri_le k hlt) _).mono ?_
              rintro e w' ⟨rfl, q, rfl⟩
              go_wp2
              go_roundw
              case rel => exact ⟨k + 1, by omega, by go_num, by rw [HQ.out], by rw [HQ.out]; go_num, by rw [HE.out]; exact by have h := ((Hk.drewN q).store 3 rfl (o := Y % 5 + 5 * ((2 * X + 3 * Y) % 5)) (u := u64v (rotl (at64 A (X % 5 + 5 * (Y % 5))) ((k + 1) * (k + 2) / 2)))).upd_mk (by simp); rw [u64_set] at h; exact h⟩
              case measure => simp [intOf]; omega
            · obtain rfl : k = 24 := by omega
              rw [show ((24 : Nat) : Int) = 24 from rfl]
              have HBL := Lib.hid (rWalk_length A 24)
              generalize hB : rWalk A 24 = B at *
              have HB := Lib.hid hB
              clear hB
              go_wp2
              go_loopw [16] (fun i wr => ∃ k : Nat, k ≤ 5 ∧ i = .int .i64 k ∧ St w [] wr (lay [.blk g1 24 ((rChi B A k).map u64v), .blk g2 24 ((List.replicate 25 0).map u64v), .blk g3 68 (P.map u64v), .blk g4 24 (B.map u64v)])) (fun i _ => 5 - (intOf i).toNat)
              case atStart => exact ⟨0, by omega, rfl, by rw [rChi_zero]; exact Hk⟩
              case round =>
                clear Hk
                obtain ⟨x, hx, rfl, Hx⟩ := hrel
                by_cases hlt : x < 5
                · have HE := Lib.hid (rChi_succ B A x)
                  have HL : Hid ((rChi B A x).length = 25) := by have := rChi_length B A x; rw [HAL.out] at this; exact this
                  generalize rChi B A x = a at *
                  have hx1 : (x : Int) < 5 := by omega
                  go_wp2
                  go_loopw [17] (fun j wr => ∃ y : Nat, y ≤ 5 ∧ j = .int .i64 y ∧ St w [] wr (lay [.blk g1 24 ((rChiY B x a y).map u64v), .blk g2 24 ((List.replicate 25 0).map u64v), .blk g3 68 (P.map u64v), .blk g4 24 (B.map u64v)])) (fun j _ => 5 - (intOf j).toNat)
                  case atStart => exact ⟨0, by omega, rfl, Hx⟩
                  case round =>
                    clear Hx
                    obtain ⟨y, hy, rfl, Hy⟩ := hrel
                    by_cases hly : y < 5
                    · have hy1 : (y : Int) < 5 := by omega
                      obtain ⟨u, hu⟩ : ∃ u, ((rChiY B x a y).map u64v)[x % 5 + 5 * (y % 5)]? = some u := ⟨_, u64_get (by rw [rChiY_length, HL.out]; omega)⟩
                      have a0 := Hy.cell 0 rfl hu
                      have af := Hy.free 0 rfl (x % 5 + 5 * (y % 5))
                      have b0 := Hy.cell 3 rfl (u64_get (k := x % 5 + 5 * (y % 5)) (by rw [HBL.out]; omega))
                      have b1 := Hy.cell 3 rfl (u64_get (k := (x + 1) % 5 + 5 * (y % 5)) (by rw [HBL.out]; omega))
                      have b2 := Hy.cell 3 rfl (u64_get (k := (x + 2) % 5 + 5 * (y % 5)) (by rw [HBL.out]; omega))
                      clear hu
                      go_wp2
                      refine region_quiet_tail 23 (by kernel_rfl) (by kernel_rfl) ?_
                      simp only [List.take_succ_cons, List.take_zero, List.drop_succ_cons, List.drop_zero]
                      repeat (go_big_quiet_step ((go_at_call 35; exact lane_q _ _ _ _ (by omega) (by omega) (by omega) (by omega))))
                      refine wpQuiet_nil ?_
                      intro nq
                      go_wp2
                      go_roundw
                      case rel => exact ⟨y + 1, by omega, by go_num, by rw [andNot64, xor64]; exact by have h := ((Hy.drewN nq).store 0 rfl (o := x % 5 + 5 * (y % 5)) (u := u64v (at64 B (x % 5 + 5 * (y % 5)) ^^^ (~~~(at64 B ((x + 1) % 5 + 5 * (y % 5))) &&& at64 B ((x + 2) % 5 + 5 * (y % 5)))))).upd_mk (by simp); rw [u64_set] at h; exact h⟩
                      case measure => simp [intOf]; omega
                    · obtain rfl : y = 5 := by omega
                      rw [show ((5 : Nat) : Int) = 5 from rfl]
                      rw [← HE.out] at Hy
                      go_wp2
                      go_roundw
                      case rel => exact ⟨x + 1, by omega, by go_num, Hy⟩
                      case measure => simp [intOf]; omega
                · obtain rfl : x = 5 := by omega
                  rw [show ((5 : Nat) : Int) = 5 from rfl]
                  have HD : Hid (rRound s c = (rChi B A 5).set 0 (at64 (rChi B A 5) 0 ^^^ c)) := by
                    have h := rRound_def s c
                    rw [HP.out, HA.out, HB.out] at h
                    exact h
                  have HDL : Hid ((rChi B A 5).length = 25) := by have := rChi_length B A 5; rw [HAL.out] at this; exact this
                  generalize rChi B A 5 = D at *
                  have a0 := Hx.cell 0 rfl (u64_get (k := 0) (by rw [HDL.out]; omega))
                  have af := Hx.free 0 rfl 0
                  have H5 := (Hx.store 0 rfl (o := 0) (u := u64v (at64 D 0 ^^^ c))).upd_mk (by simp)
                  rw [u64_set, ← HD.out] at H5
                  have HRL : Hid ((rRound s c).length = 25) := by rw [HD.out, List.length_set, HDL.out]; rfl
                  go_wp2_with (first | (refine wpList_load_row rfl 24 (.tmp 2) rfl g1 rfl _ _ _ _ (by rw [xor64]; exact H5.blk 0 rfl) Try.underlying24 rfl (by rw [state24_size]; simp [HRL.out]) ?_) | (refine wpList_store_mid rfl 24 (.tmp 4) (.tmp 139) rfl g2 0 _ rfl rfl (by rw [xor64]; exact there_eq (H5.there 1 rfl) (by simp [HRL.out])) (by rw [state24_size]; simp [HRL.out]) (all_oneCell_toArray (u64_one _)) ?_))
                  rw [xor64]
                  have H6 := (H5.storeAll 1 rfl (vs := (rRound s c).map u64v) (by simp [HRL.out])).upd_mk (by simp)
                  exact bodyPost_ret (results_cell_row rfl _ _ g2 24 ((rRound s c).map u64v).toArray _ _ rfl (H6.blk 1 rfl) Try.underlying24 rfl (by rw [state24_size]; simp [HRL.out])) rfl ⟨rfl, H6.below⟩
end Go.Proofs.Ytoodgdcpkkfdgaa
