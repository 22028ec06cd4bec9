/- The permutation takes unlike states to unlike ones: theta, rho and pi, chi, the rounds. -/
import Derived.Test.YtoodgdcpkkfdgaaKecInv
import Derived.KernelRfl
namespace Go.Proofs.Ytoodgdcpkkfdgaa
set_option linter.unusedVariables false
def bt (x : UInt64) (i : Nat) : Bool := x.toNat.testBit i
theorem bt_ext {x y : UInt64} (h : ∀ i, i < 64 → bt x i = bt y i) : x = y := by
  apply UInt64.toNat_inj.mp
  apply Nat.eq_of_testBit_eq
  intro i
  by_cases hi : i < 64
  · exact h i hi
  · have h2 : 2 ^ 64 ≤ 2 ^ i := Nat.pow_le_pow_right (by omega) (by omega)
    rw [Nat.testBit_lt_two_pow (Nat.lt_of_lt_of_le x.toNat_lt h2), Nat.testBit_lt_two_pow (Nat.lt_of_lt_of_le y.toNat_lt h2)]
theorem bt_xor (x y : UInt64) (i : Nat) : bt (x ^^^ y) i = (bt x i ^^ bt y i) := by simp [bt]
theorem bt_and (x y : UInt64) (i : Nat) : bt (x &&& y) i = (bt x i && bt y i) := by simp [bt]
theorem bt_zero (i : Nat) : bt 0 i = false := by simp [bt]
theorem bt_not (x : UInt64) (i : Nat) (h : i < 64) : bt (~~~x) i = !bt x i := by
  unfold bt
  have e : (~~~x).toNat = 2 ^ 64 - 1 - x.toNat := by
    have h1 := UInt64.toNat_not x
    simp at h1 ⊢
  rw [e, show 2 ^ 64 - 1 - x.toNat = 2 ^ 64 - (x.toNat + 1) by omega, Nat.testBit_two_pow_sub_succ x.toNat_lt]
  simp [h]
theorem bt_rotl (x : UInt64) (n i : Nat) (hi : i < 64) : bt (rotl x n) i = bt x (if n % 64 ≤ i then i - n % 64 else 64 - n % 64 + i) := by
  unfold bt
  rw [rotl_toNat, rotN_bit 64 _ _ _ (Nat.mod_lt _ (by omega)) x.toNat_lt]
  simp [hi]
theorem rotl_inj {x y : UInt64} {n : Nat} (h : rotl x n = rotl y n) : x = y := by
  apply bt_ext
  intro i hi
  have hn : n % 64 < 64 := Nat.mod_lt _ (by omega)
  by_cases hi2 : i + n % 64 < 64
  · have h1 := bt_rotl x n (i + n % 64) hi2
    rw [h, bt_rotl y n (i + n % 64) hi2, if_pos (by omega), Nat.add_sub_cancel] at h1
    exact h1.symm
  · have h1 := bt_rotl x n (i + n % 64 - 64) (by omega)
    rw [h, bt_rotl y n (i + n % 64 - 64) (by omega), if_neg (by omega), show 64 - n % 64 + (i + n % 64 - 64) = i by omega] at h1
    exact h1.symm

theorem five (c d : Nat → UInt64) (h : ∀ x, x < 5 → c x ^^^ (c ((x + 4) % 5) ^^^ rotl (c ((x + 1) % 5)) 1) = d x ^^^ (d ((x + 4) % 5) ^^^ rotl (d ((x + 1) % 5)) 1)) (x : Nat) (hx : x < 5) : c x = d x := by
  have key := tri_kernel (fun x i => bt (c (x % 5).toNat) (i % 64).toNat ^^ bt (d (x % 5).toNat) (i % 64).toNat)
    (fun x i => by simp only [show (x + 5) % 5 = x % 5 by omega]) (fun x i => by simp only [show (i + 64) % 64 = i % 64 by omega]) (by
    funext x i
    simp only [tri]
    have hx5 : (x % 5).toNat < 5 := by omega
    have h1 := h (x % 5).toNat hx5
    have hi : (i % 64).toNat < 64 := by omega
    have h2 := congrArg (fun z => bt z (i % 64).toNat) h1
    simp only [bt_xor, bt_rotl _ _ _ hi] at h2
    rw [show ((x - 1) % 5).toNat = ((x % 5).toNat + 4) % 5 by omega, show ((x - -1) % 5).toNat = ((x % 5).toNat + 1) % 5 by omega]
    have e3 : (if 1 % 64 ≤ (i % 64).toNat then (i % 64).toNat - 1 % 64 else 64 - 1 % 64 + (i % 64).toNat) = ((i - 1) % 64).toNat := by
      split <;> omega
    rw [e3] at h2
    revert h2
    generalize bt (c (x % 5).toNat) (i % 64).toNat = a1
    generalize bt (c (((x % 5).toNat + 4) % 5)) (i % 64).toNat = a2
    generalize bt (c (((x % 5).toNat + 1) % 5)) ((i - 1) % 64).toNat = a3
    generalize bt (d (x % 5).toNat) (i % 64).toNat = b1
    generalize bt (d (((x % 5).toNat + 4) % 5)) (i % 64).toNat = b2
    generalize bt (d (((x % 5).toNat + 1) % 5)) ((i - 1) % 64).toNat = b3
    cases a1 <;> cases a2 <;> cases a3 <;> cases b1 <;> cases b2 <;> cases b3 <;> simp)
  apply bt_ext
  intro i hi
  have h1 := congrFun (congrFun key (x : Int)) (i : Int)
  rw [show (((x : Int)) % 5).toNat = x by omega, show (((i : Int)) % 64).toNat = i by omega] at h1
  revert h1
  generalize bt (c x) i = a
  generalize bt (d x) i = b
  cases a <;> cases b <;> simp

theorem col_one {a0 a1 a2 a3 a4 b0 b1 b2 b3 b4 D E : UInt64} (h0 : a0 ^^^ D = b0 ^^^ E) (h1 : a1 ^^^ D = b1 ^^^ E) (h2 : a2 ^^^ D = b2 ^^^ E) (h3 : a3 ^^^ D = b3 ^^^ E) (h4 : a4 ^^^ D = b4 ^^^ E) :
    (((((0 ^^^ a0) ^^^ a1) ^^^ a2) ^^^ a3) ^^^ a4) ^^^ D = (((((0 ^^^ b0) ^^^ b1) ^^^ b2) ^^^ b3) ^^^ b4) ^^^ E := by
  apply bt_ext
  intro i hi
  have g0 := congrArg (fun z => bt z i) h0
  have g1 := congrArg (fun z => bt z i) h1
  have g2 := congrArg (fun z => bt z i) h2
  have g3 := congrArg (fun z => bt z i) h3
  have g4 := congrArg (fun z => bt z i) h4
  simp only [bt_xor, bt_zero] at g0 g1 g2 g3 g4 ⊢
  generalize bt D i = d at *
  generalize bt E i = e at *
  generalize bt a0 i = x0 at *; generalize bt a1 i = x1 at *; generalize bt a2 i = x2 at *; generalize bt a3 i = x3 at *; generalize bt a4 i = x4 at *
  generalize bt b0 i = y0 at *; generalize bt b1 i = y1 at *; generalize bt b2 i = y2 at *; generalize bt b3 i = y3 at *; generalize bt b4 i = y4 at *
  have one : ∀ x y d e : Bool, (x ^^ d) = (y ^^ e) → y = (x ^^ (d ^^ e)) := by decide
  rw [one _ _ _ _ g0, one _ _ _ _ g1, one _ _ _ _ g2, one _ _ _ _ g3, one _ _ _ _ g4]
  clear g0 g1 g2 g3 g4 one
  cases d <;> cases e <;> simp
  all_goals (cases x0 <;> simp)
theorem xor_back {a b D : UInt64} (h : a ^^^ D = b ^^^ D) : a = b := by
  apply bt_ext
  intro i hi
  have g0 := congrArg (fun z => bt z i) h
  simp only [bt_xor] at g0
  revert g0
  generalize bt a i = x; generalize bt b i = y; generalize bt D i = z
  cases x <;> cases y <;> cases z <;> simp

set_option maxRecDepth 100000 in
theorem theta_one (s0 s1 s2 s3 s4 s5 s6 s7 s8 s9 s10 s11 s12 s13 s14 s15 s16 s17 s18 s19 s20 s21 s22 s23 s24 : UInt64) : kTheta [s0, s1, s2, s3, s4, s5, s6, s7, s8, s9, s10, s11, s12, s13, s14, s15, s16, s17, s18, s19, s20, s21, s22, s23, s24] = [s0 ^^^ ((((((0 ^^^ s4) ^^^ s9) ^^^ s14) ^^^ s19) ^^^ s24) ^^^ rotl (((((0 ^^^ s1) ^^^ s6) ^^^ s11) ^^^ s16) ^^^ s21) 1), s1 ^^^ ((((((0 ^^^ s0) ^^^ s5) ^^^ s10) ^^^ s15) ^^^ s20) ^^^ rotl (((((0 ^^^ s2) ^^^ s7) ^^^ s12) ^^^ s17) ^^^ s22) 1), s2 ^^^ ((((((0 ^^^ s1) ^^^ s6) ^^^ s11) ^^^ s16) ^^^ s21) ^^^ rotl (((((0 ^^^ s3) ^^^ s8) ^^^ s13) ^^^ s18) ^^^ s23) 1), s3 ^^^ ((((((0 ^^^ s2) ^^^ s7) ^^^ s12) ^^^ s17) ^^^ s22) ^^^ rotl (((((0 ^^^ s4) ^^^ s9) ^^^ s14) ^^^ s19) ^^^ s24) 1), s4 ^^^ ((((((0 ^^^ s3) ^^^ s8) ^^^ s13) ^^^ s18) ^^^ s23) ^^^ rotl (((((0 ^^^ s0) ^^^ s5) ^^^ s10) ^^^ s15) ^^^ s20) 1), s5 ^^^ ((((((0 ^^^ s4) ^^^ s9) ^^^ s14) ^^^ s19) ^^^ s24) ^^^ rotl (((((0 ^^^ s1) ^^^ s6) ^^^ s11) ^^^ s16) ^^^ s21) 1), s6 ^^^ ((((((0 ^^^ s0) ^^^ s5) ^^^ s10) ^^^ s15) ^^^ s20) ^^^ rotl (((((0 ^^^ s2) ^^^ s7) ^^^ s12) ^^^ s17) ^^^ s22) 1), s7 ^^^ ((((((0 ^^^ s1) ^^^ s6) ^^^ s11) ^^^ s16) ^^^ s21) ^^^ rotl (((((0 ^^^ s3) ^^^ s8) ^^^ s13) ^^^ s18) ^^^ s23) 1), s8 ^^^ ((((((0 ^^^ s2) ^^^ s7) ^^^ s12) ^^^ s17) ^^^ s22) ^^^ rotl (((((0 ^^^ s4) ^^^ s9) ^^^ s14) ^^^ s19) ^^^ s24) 1), s9 ^^^ ((((((0 ^^^ s3) ^^^ s8) ^^^ s13) ^^^ s18) ^^^ s23) ^^^ rotl (((((0 ^^^ s0) ^^^ s5) ^^^ s10) ^^^ s15) ^^^ s20) 1), s10 ^^^ ((((((0 ^^^ s4) ^^^ s9) ^^^ s14) ^^^ s19) ^^^ s24) ^^^ rotl (((((0 ^^^ s1) ^^^ s6) ^^^ s11) ^^^ s16) ^^^ s21) 1), s11 ^^^ ((((((0 ^^^ s0) ^^^ s5) ^^^ s10) ^^^ s15) ^^^ s20) ^^^ rotl (((((0 ^^^ s2) ^^^ s7) ^^^ s12) ^^^ s17) ^^^ s22) 1), s12 ^^^ ((((((0 ^^^ s1) ^^^ s6) ^^^ s11) ^^^ s16) ^^^ s21) ^^^ rotl (((((0 ^^^ s3) ^^^ s8) ^^^ s13) ^^^ s18) ^^^ s23) 1), s13 ^^^ ((((((0 ^^^ s2) ^^^ s7) ^^^ s12) ^^^ s17) ^^^ s22) ^^^ rotl (((((0 ^^^ s4) ^^^ s9) ^^^ s14) ^^^ s19) ^^^ s24) 1), s14 ^^^ ((((((0 ^^^ s3) ^^^ s8) ^^^ s13) ^^^ s18) ^^^ s23) ^^^ rotl (((((0 ^^^ s0) ^^^ s5) ^^^ s10) ^^^ s15) ^^^ s20) 1), s15 ^^^ ((((((0 ^^^ s4) ^^^ s9) ^^^ s14) ^^^ s19) ^^^ s24) ^^^ rotl (((((0 ^^^ s1) ^^^ s6) ^^^ s11) ^^^ s16) ^^^ s21) 1), s16 ^^^ ((((((0 ^^^ s0) ^^^ s5) ^^^ s10) ^^^ s15) ^^^ s20) ^^^ rotl (((((0 ^^^ s2) ^^^ s7) ^^^ s12) ^^^ s17) ^^^ s22) 1), s17 ^^^ ((((((0 ^^^ s1) ^^^ s6) ^^^ s11) ^^^ s16) ^^^ s21) ^^^ rotl (((((0 ^^^ s3) ^^^ s8) ^^^ s13) ^^^ s18) ^^^ s23) 1), s18 ^^^ ((((((0 ^^^ s2) ^^^ s7) ^^^ s12) ^^^ s17) ^^^ s22) ^^^ rotl (((((0 ^^^ s4) ^^^ s9) ^^^ s14) ^^^ s19) ^^^ s24) 1), s19 ^^^ ((((((0 ^^^ s3) ^^^ s8) ^^^ s13) ^^^ s18) ^^^ s23) ^^^ rotl (((((0 ^^^ s0) ^^^ s5) ^^^ s10) ^^^ s15) ^^^ s20) 1), s20 ^^^ ((((((0 ^^^ s4) ^^^ s9) ^^^ s14) ^^^ s19) ^^^ s24) ^^^ rotl (((((0 ^^^ s1) ^^^ s6) ^^^ s11) ^^^ s16) ^^^ s21) 1), s21 ^^^ ((((((0 ^^^ s0) ^^^ s5) ^^^ s10) ^^^ s15) ^^^ s20) ^^^ rotl (((((0 ^^^ s2) ^^^ s7) ^^^ s12) ^^^ s17) ^^^ s22) 1), s22 ^^^ ((((((0 ^^^ s1) ^^^ s6) ^^^ s11) ^^^ s16) ^^^ s21) ^^^ rotl (((((0 ^^^ s3) ^^^ s8) ^^^ s13) ^^^ s18) ^^^ s23) 1), s23 ^^^ ((((((0 ^^^ s2) ^^^ s7) ^^^ s12) ^^^ s17) ^^^ s22) ^^^ rotl (((((0 ^^^ s4) ^^^ s9) ^^^ s14) ^^^ s19) ^^^ s24) 1), s24 ^^^ ((((((0 ^^^ s3) ^^^ s8) ^^^ s13) ^^^ s18) ^^^ s23) ^^^ rotl (((((0 ^^^ s0) ^^^ s5) ^^^ s10) ^^^ s15) ^^^ s20) 1)] := by kernel_rfl

set_option maxRecDepth 100000 in
theorem theta_inj {s t : List UInt64} (hs : s.length = 25) (ht : t.length = 25) (h : kTheta s = kTheta t) : s = t := by
  obtain ⟨s0, s1, s2, s3, s4, s5, s6, s7, s8, s9, s10, s11, s12, s13, s14, s15, s16, s17, s18, s19, s20, s21, s22, s23, s24, rfl⟩ := list25 s hs
  obtain ⟨t0, t1, t2, t3, t4, t5, t6, t7, t8, t9, t10, t11, t12, t13, t14, t15, t16, t17, t18, t19, t20, t21, t22, t23, t24, rfl⟩ := list25 t ht
  rw [theta_one, theta_one] at h
  simp only [List.cons.injEq] at h
  obtain ⟨h0, h1, h2, h3, h4, h5, h6, h7, h8, h9, h10, h11, h12, h13, h14, h15, h16, h17, h18, h19, h20, h21, h22, h23, h24, -⟩ := h
  have c0 := col_one h0 h5 h10 h15 h20
  have c1 := col_one h1 h6 h11 h16 h21
  have c2 := col_one h2 h7 h12 h17 h22
  have c3 := col_one h3 h8 h13 h18 h23
  have c4 := col_one h4 h9 h14 h19 h24
  have key := five (fun x => at64 [(((((0 ^^^ s0) ^^^ s5) ^^^ s10) ^^^ s15) ^^^ s20), (((((0 ^^^ s1) ^^^ s6) ^^^ s11) ^^^ s16) ^^^ s21), (((((0 ^^^ s2) ^^^ s7) ^^^ s12) ^^^ s17) ^^^ s22), (((((0 ^^^ s3) ^^^ s8) ^^^ s13) ^^^ s18) ^^^ s23), (((((0 ^^^ s4) ^^^ s9) ^^^ s14) ^^^ s19) ^^^ s24)] x) (fun x => at64 [(((((0 ^^^ t0) ^^^ t5) ^^^ t10) ^^^ t15) ^^^ t20), (((((0 ^^^ t1) ^^^ t6) ^^^ t11) ^^^ t16) ^^^ t21), (((((0 ^^^ t2) ^^^ t7) ^^^ t12) ^^^ t17) ^^^ t22), (((((0 ^^^ t3) ^^^ t8) ^^^ t13) ^^^ t18) ^^^ t23), (((((0 ^^^ t4) ^^^ t9) ^^^ t14) ^^^ t19) ^^^ t24)] x) (fun x hx => by
    match x, hx with
    | 0, _ => exact c0
    | 1, _ => exact c1
    | 2, _ => exact c2
    | 3, _ => exact c3
    | 4, _ => exact c4
    )
  have e0 : (((((0 ^^^ s0) ^^^ s5) ^^^ s10) ^^^ s15) ^^^ s20) = (((((0 ^^^ t0) ^^^ t5) ^^^ t10) ^^^ t15) ^^^ t20) := key 0 (by omega)
  have e1 : (((((0 ^^^ s1) ^^^ s6) ^^^ s11) ^^^ s16) ^^^ s21) = (((((0 ^^^ t1) ^^^ t6) ^^^ t11) ^^^ t16) ^^^ t21) := key 1 (by omega)
  have e2 : (((((0 ^^^ s2) ^^^ s7) ^^^ s12) ^^^ s17) ^^^ s22) = (((((0 ^^^ t2) ^^^ t7) ^^^ t12) ^^^ t17) ^^^ t22) := key 2 (by omega)
  have e3 : (((((0 ^^^ s3) ^^^ s8) ^^^ s13) ^^^ s18) ^^^ s23) = (((((0 ^^^ t3) ^^^ t8) ^^^ t13) ^^^ t18) ^^^ t23) := key 3 (by omega)
  have e4 : (((((0 ^^^ s4) ^^^ s9) ^^^ s14) ^^^ s19) ^^^ s24) = (((((0 ^^^ t4) ^^^ t9) ^^^ t14) ^^^ t19) ^^^ t24) := key 4 (by omega)
  clear key c0 c1 c2 c3 c4
  rw [e4, e1] at h0
  rw [e0, e2] at h1
  rw [e1, e3] at h2
  rw [e2, e4] at h3
  rw [e3, e0] at h4
  rw [e4, e1] at h5
  rw [e0, e2] at h6
  rw [e1, e3] at h7
  rw [e2, e4] at h8
  rw [e3, e0] at h9
  rw [e4, e1] at h10
  rw [e0, e2] at h11
  rw [e1, e3] at h12
  rw [e2, e4] at h13
  rw [e3, e0] at h14
  rw [e4, e1] at h15
  rw [e0, e2] at h16
  rw [e1, e3] at h17
  rw [e2, e4] at h18
  rw [e3, e0] at h19
  rw [e4, e1] at h20
  rw [e0, e2] at h21
  rw [e1, e3] at h22
  rw [e2, e4] at h23
  rw [e3, e0] at h24
  have k0 := xor_back h0
  have k1 := xor_back h1
  have k2 := xor_back h2
  have k3 := xor_back h3
  have k4 := xor_back h4
  have k5 := xor_back h5
  have k6 := xor_back h6
  have k7 := xor_back h7
  have k8 := xor_back h8
  have k9 := xor_back h9
  have k10 := xor_back h10
  have k11 := xor_back h11
  have k12 := xor_back h12
  have k13 := xor_back h13
  have k14 := xor_back h14
  have k15 := xor_back h15
  have k16 := xor_back h16
  have k17 := xor_back h17
  have k18 := xor_back h18
  have k19 := xor_back h19
  have k20 := xor_back h20
  have k21 := xor_back h21
  have k22 := xor_back h22
  have k23 := xor_back h23
  have k24 := xor_back h24
  rw [k0, k1, k2, k3, k4, k5, k6, k7, k8, k9, k10, k11, k12, k13, k14, k15, k16, k17, k18, k19, k20, k21, k22, k23, k24]

set_option maxRecDepth 100000 in
theorem kWalk_lit (s0 s1 s2 s3 s4 s5 s6 s7 s8 s9 s10 s11 s12 s13 s14 s15 s16 s17 s18 s19 s20 s21 s22 s23 s24 : UInt64) : kWalk [s0, s1, s2, s3, s4, s5, s6, s7, s8, s9, s10, s11, s12, s13, s14, s15, s16, s17, s18, s19, s20, s21, s22, s23, s24] = [s0, rotl s6 300, rotl s12 171, rotl s18 21, rotl s24 78, rotl s3 28, rotl s9 276, rotl s10 3, rotl s16 45, rotl s22 253, rotl s1 1, rotl s7 6, rotl s13 153, rotl s19 136, rotl s20 210, rotl s4 91, rotl s5 36, rotl s11 10, rotl s17 15, rotl s23 120, rotl s2 190, rotl s8 55, rotl s14 231, rotl s15 105, rotl s21 66] := by kernel_rfl
set_option maxRecDepth 100000 in
theorem kWalk_inj {s t : List UInt64} (hs : s.length = 25) (ht : t.length = 25) (h : kWalk s = kWalk t) : s = t := by
  obtain ⟨s0, s1, s2, s3, s4, s5, s6, s7, s8, s9, s10, s11, s12, s13, s14, s15, s16, s17, s18, s19, s20, s21, s22, s23, s24, rfl⟩ := list25 s hs
  obtain ⟨t0, t1, t2, t3, t4, t5, t6, t7, t8, t9, t10, t11, t12, t13, t14, t15, t16, t17, t18, t19, t20, t21, t22, t23, t24, rfl⟩ := list25 t ht
  rw [kWalk_lit, kWalk_lit] at h
  simp only [List.cons.injEq] at h
  obtain ⟨h0, h1, h2, h3, h4, h5, h6, h7, h8, h9, h10, h11, h12, h13, h14, h15, h16, h17, h18, h19, h20, h21, h22, h23, h24, -⟩ := h
  have k0 := h0
  have k6 := rotl_inj h1
  have k12 := rotl_inj h2
  have k18 := rotl_inj h3
  have k24 := rotl_inj h4
  have k3 := rotl_inj h5
  have k9 := rotl_inj h6
  have k10 := rotl_inj h7
  have k16 := rotl_inj h8
  have k22 := rotl_inj h9
  have k1 := rotl_inj h10
  have k7 := rotl_inj h11
  have k13 := rotl_inj h12
  have k19 := rotl_inj h13
  have k20 := rotl_inj h14
  have k4 := rotl_inj h15
  have k5 := rotl_inj h16
  have k11 := rotl_inj h17
  have k17 := rotl_inj h18
  have k23 := rotl_inj h19
  have k2 := rotl_inj h20
  have k8 := rotl_inj h21
  have k14 := rotl_inj h22
  have k15 := rotl_inj h23
  have k21 := rotl_inj h24
  rw [k0, k1, k2, k3, k4, k5, k6, k7, k8, k9, k10, k11, k12, k13, k14, k15, k16, k17, k18, k19, k20, k21, k22, k23, k24]

theorem chi_bits : ∀ a0 a1 a2 a3 a4 b0 b1 b2 b3 b4 : Bool, (a0 ^^ (!a1 && a2)) = (b0 ^^ (!b1 && b2)) → (a1 ^^ (!a2 && a3)) = (b1 ^^ (!b2 && b3)) → (a2 ^^ (!a3 && a4)) = (b2 ^^ (!b3 && b4)) → (a3 ^^ (!a4 && a0)) = (b3 ^^ (!b4 && b0)) → (a4 ^^ (!a0 && a1)) = (b4 ^^ (!b0 && b1)) → a0 = b0 ∧ a1 = b1 ∧ a2 = b2 ∧ a3 = b3 ∧ a4 = b4 := by decide +kernel
theorem chi_row {a0 a1 a2 a3 a4 b0 b1 b2 b3 b4 : UInt64} (h0 : a0 ^^^ (~~~a1 &&& a2) = b0 ^^^ (~~~b1 &&& b2)) (h1 : a1 ^^^ (~~~a2 &&& a3) = b1 ^^^ (~~~b2 &&& b3)) (h2 : a2 ^^^ (~~~a3 &&& a4) = b2 ^^^ (~~~b3 &&& b4)) (h3 : a3 ^^^ (~~~a4 &&& a0) = b3 ^^^ (~~~b4 &&& b0)) (h4 : a4 ^^^ (~~~a0 &&& a1) = b4 ^^^ (~~~b0 &&& b1)) :
    a0 = b0 ∧ a1 = b1 ∧ a2 = b2 ∧ a3 = b3 ∧ a4 = b4 := by
  have bits : ∀ i, i < 64 → bt a0 i = bt b0 i ∧ bt a1 i = bt b1 i ∧ bt a2 i = bt b2 i ∧ bt a3 i = bt b3 i ∧ bt a4 i = bt b4 i := by
    intro i hi
    have g0 := congrArg (fun z => bt z i) h0
    have g1 := congrArg (fun z => bt z i) h1
    have g2 := congrArg (fun z => bt z i) h2
    have g3 := congrArg (fun z => bt z i) h3
    have g4 := congrArg (fun z => bt z i) h4
    simp only [bt_xor, bt_and, bt_not _ _ hi] at g0 g1 g2 g3 g4
    exact chi_bits _ _ _ _ _ _ _ _ _ _ g0 g1 g2 g3 g4
  exact ⟨bt_ext fun i hi => (bits i hi).1, bt_ext fun i hi => (bits i hi).2.1, bt_ext fun i hi => (bits i hi).2.2.1, bt_ext fun i hi => (bits i hi).2.2.2.1, bt_ext fun i hi => (bits i hi).2.2.2.2⟩

set_option maxRecDepth 100000 in
theorem chi_lit (b0 b1 b2 b3 b4 b5 b6 b7 b8 b9 b10 b11 b12 b13 b14 b15 b16 b17 b18 b19 b20 b21 b22 b23 b24 s0 s1 s2 s3 s4 s5 s6 s7 s8 s9 s10 s11 s12 s13 s14 s15 s16 s17 s18 s19 s20 s21 s22 s23 s24 : UInt64) : kChiTo [b0, b1, b2, b3, b4, b5, b6, b7, b8, b9, b10, b11, b12, b13, b14, b15, b16, b17, b18, b19, b20, b21, b22, b23, b24] [s0, s1, s2, s3, s4, s5, s6, s7, s8, s9, s10, s11, s12, s13, s14, s15, s16, s17, s18, s19, s20, s21, s22, s23, s24] 25 = [b0 ^^^ (~~~b1 &&& b2), b1 ^^^ (~~~b2 &&& b3), b2 ^^^ (~~~b3 &&& b4), b3 ^^^ (~~~b4 &&& b0), b4 ^^^ (~~~b0 &&& b1), b5 ^^^ (~~~b6 &&& b7), b6 ^^^ (~~~b7 &&& b8), b7 ^^^ (~~~b8 &&& b9), b8 ^^^ (~~~b9 &&& b5), b9 ^^^ (~~~b5 &&& b6), b10 ^^^ (~~~b11 &&& b12), b11 ^^^ (~~~b12 &&& b13), b12 ^^^ (~~~b13 &&& b14), b13 ^^^ (~~~b14 &&& b10), b14 ^^^ (~~~b10 &&& b11), b15 ^^^ (~~~b16 &&& b17), b16 ^^^ (~~~b17 &&& b18), b17 ^^^ (~~~b18 &&& b19), b18 ^^^ (~~~b19 &&& b15), b19 ^^^ (~~~b15 &&& b16), b20 ^^^ (~~~b21 &&& b22), b21 ^^^ (~~~b22 &&& b23), b22 ^^^ (~~~b23 &&& b24), b23 ^^^ (~~~b24 &&& b20), b24 ^^^ (~~~b20 &&& b21)] := by kernel_rfl
set_option maxRecDepth 100000 in
theorem chi_inj {b c s t : List UInt64} (hb : b.length = 25) (hc : c.length = 25) (hs : s.length = 25) (ht : t.length = 25) (h : kChiTo b s 25 = kChiTo c t 25) : b = c := by
  obtain ⟨b0, b1, b2, b3, b4, b5, b6, b7, b8, b9, b10, b11, b12, b13, b14, b15, b16, b17, b18, b19, b20, b21, b22, b23, b24, rfl⟩ := list25 b hb
  obtain ⟨c0, c1, c2, c3, c4, c5, c6, c7, c8, c9, c10, c11, c12, c13, c14, c15, c16, c17, c18, c19, c20, c21, c22, c23, c24, rfl⟩ := list25 c hc
  obtain ⟨s0, s1, s2, s3, s4, s5, s6, s7, s8, s9, s10, s11, s12, s13, s14, s15, s16, s17, s18, s19, s20, s21, s22, s23, s24, rfl⟩ := list25 s hs
  obtain ⟨t0, t1, t2, t3, t4, t5, t6, t7, t8, t9, t10, t11, t12, t13, t14, t15, t16, t17, t18, t19, t20, t21, t22, t23, t24, rfl⟩ := list25 t ht
  rw [chi_lit, chi_lit] at h
  simp only [List.cons.injEq] at h
  obtain ⟨h0, h1, h2, h3, h4, h5, h6, h7, h8, h9, h10, h11, h12, h13, h14, h15, h16, h17, h18, h19, h20, h21, h22, h23, h24, -⟩ := h
  obtain ⟨k0, k1, k2, k3, k4⟩ := chi_row h0 h1 h2 h3 h4
  obtain ⟨k5, k6, k7, k8, k9⟩ := chi_row h5 h6 h7 h8 h9
  obtain ⟨k10, k11, k12, k13, k14⟩ := chi_row h10 h11 h12 h13 h14
  obtain ⟨k15, k16, k17, k18, k19⟩ := chi_row h15 h16 h17 h18 h19
  obtain ⟨k20, k21, k22, k23, k24⟩ := chi_row h20 h21 h22 h23 h24
  rw [k0, k1, k2, k3, k4, k5, k6, k7, k8, k9, k10, k11, k12, k13, k14, k15, k16, k17, k18, k19, k20, k21, k22, k23, k24]

theorem set_inj {l m : List UInt64} {c : UInt64} (hl : l.length = 25) (hm : m.length = 25) (h : l.set 0 (at64 l 0 ^^^ c) = m.set 0 (at64 m 0 ^^^ c)) : l = m := by
  match l, m, hl, hm with
  | a :: l, b :: m, hl, hm =>
    simp only [List.set_cons_zero, List.cons.injEq] at h
    rw [show at64 (a :: l) 0 = a from rfl, show at64 (b :: m) 0 = b from rfl] at h
    rw [xor_back h.1, h.2]
theorem round_inj {s t : List UInt64} {c : UInt64} (hs : s.length = 25) (ht : t.length = 25) (h : kRound s c = kRound t c) : s = t := by
  unfold kRound at h
  have h1 := set_inj (by rw [kChiTo_length, kTheta_length]; exact hs) (by rw [kChiTo_length, kTheta_length]; exact ht) h
  have h2 := chi_inj (kWalk_length _) (kWalk_length _) (by rw [kTheta_length]; exact hs) (by rw [kTheta_length]; exact ht) h1
  have h3 := kWalk_inj (by rw [kTheta_length]; exact hs) (by rw [kTheta_length]; exact ht) h2
  exact theta_inj hs ht h3
theorem permTo_inj {s t : List UInt64} (hs : s.length = 25) (ht : t.length = 25) (k : Nat) (h : kPermTo s k = kPermTo t k) : s = t := by
  induction k with
  | zero => exact h
  | succ k ih =>
    have h' : kRound (kPermTo s k) (at64 kConsts k) = kRound (kPermTo t k) (at64 kConsts k) := h
    exact ih (round_inj (by rw [kPermTo_length]; exact hs) (by rw [kPermTo_length]; exact ht) h')
theorem perm_inj {s t : List UInt64} (hs : s.length = 25) (ht : t.length = 25) (h : kPerm s = kPerm t) : s = t := permTo_inj hs ht 24 h
end Go.Proofs.Ytoodgdcpkkfdgaa
