/- There and back: what is read of an operation's bytes is the operation. Plain lists. -/
import Derived.Test.YtgfhnbjpdhdhgaaOpN
namespace Go.Proofs.Ytgfhnbjpdhdhgaa
open Go.RowKit
set_option linter.unusedVariables false

theorem leL_cons (n x : Nat) : leL (n + 1) x = UInt8.ofNat x :: leL n (x / 256) := by
  unfold leL
  rw [List.range_succ_eq_map, List.map_cons, List.map_map]
  simp only [Nat.pow_zero, Nat.div_one, List.cons.injEq, true_and]
  refine List.map_congr_left fun i _ => ?_
  simp only [Function.comp, Nat.pow_succ, Nat.div_div_eq_div_mul, Nat.mul_comm]
theorem tk_beL (n : Nat) : ∀ x, tk (beL n x) = x % 256 ^ n := by
  induction n with
  | zero => intro x; simp [beL, leL, tk, Nat.mod_one]
  | succ n ih =>
    intro x
    have h := ih (x / 256)
    unfold beL at h ⊢
    rw [leL_cons, List.reverse_cons, tk_snoc, h, UInt8.toNat_ofNat', show 256 ^ (n + 1) = 256 * 256 ^ n by rw [Nat.pow_succ, Nat.mul_comm], Nat.mod_mul]
    omega
theorem i64_u64 (h : Int) (h1 : -9223372036854775808 ≤ h) (h2 : h ≤ 9223372036854775807) : i64N (tk (beL 8 (u64N h))) = h := by
  rw [tk_beL, Nat.mod_eq_of_lt (by have := u64N_le h; omega)]
  unfold i64N u64N
  rw [IntWalk.i64_left]
  unfold wrap64
  omega
theorem fld_mid (p q r : List UInt8) (a n : Nat) (ha : p.length = a) (hn : q.length = n) : fld (p ++ q ++ r) a n = q := by
  unfold fld
  rw [List.append_assoc, List.drop_left' ha, List.take_left' hn]

section
variable (k : UInt8) (h : Int) (a : UInt8) (c o : Int) (d m rest : List UInt8)
theorem encB_length : (encB k h a c o d m).length = 32 + d.length + m.length := by simp [encB, beL_length]; omega
theorem enc_h : fld (encB k h a c o d m ++ rest) 2 8 = beL 8 (u64N h) := by
  rw [show encB k h a c o d m ++ rest = [k, a] ++ beL 8 (u64N h) ++ (beL 8 (u64N c) ++ beL 8 (u64N o) ++ beL 3 d.length ++ beL 3 m.length ++ d ++ m ++ rest) by simp [encB]]
  exact fld_mid _ _ _ _ _ rfl (beL_length _ _)
theorem enc_c : fld (encB k h a c o d m ++ rest) 10 8 = beL 8 (u64N c) := by
  rw [show encB k h a c o d m ++ rest = ([k, a] ++ beL 8 (u64N h)) ++ beL 8 (u64N c) ++ (beL 8 (u64N o) ++ beL 3 d.length ++ beL 3 m.length ++ d ++ m ++ rest) by simp [encB]]
  exact fld_mid _ _ _ _ _ (by simp [beL_length]) (beL_length _ _)
theorem enc_o : fld (encB k h a c o d m ++ rest) 18 8 = beL 8 (u64N o) := by
  rw [show encB k h a c o d m ++ rest = ([k, a] ++ beL 8 (u64N h) ++ beL 8 (u64N c)) ++ beL 8 (u64N o) ++ (beL 3 d.length ++ beL 3 m.length ++ d ++ m ++ rest) by simp [encB]]
  exact fld_mid _ _ _ _ _ (by simp [beL_length]) (beL_length _ _)
theorem enc_nD (hd : d.length ≤ 16777215) : nD (encB k h a c o d m ++ rest) = d.length := by
  unfold nD
  rw [show encB k h a c o d m ++ rest = ([k, a] ++ beL 8 (u64N h) ++ beL 8 (u64N c) ++ beL 8 (u64N o)) ++ beL 3 d.length ++ (beL 3 m.length ++ d ++ m ++ rest) by simp [encB]]
  rw [fld_mid _ _ _ _ _ (by simp [beL_length]) (beL_length _ _), tk_beL]
  omega
theorem enc_nM (hm : m.length ≤ 16777215) : nM (encB k h a c o d m ++ rest) = m.length := by
  unfold nM
  rw [show encB k h a c o d m ++ rest = ([k, a] ++ beL 8 (u64N h) ++ beL 8 (u64N c) ++ beL 8 (u64N o) ++ beL 3 d.length) ++ beL 3 m.length ++ (d ++ m ++ rest) by simp [encB]]
  rw [fld_mid _ _ _ _ _ (by simp [beL_length]) (beL_length _ _), tk_beL]
  omega
theorem enc_d : fld (encB k h a c o d m ++ rest) 32 d.length = d := by
  rw [show encB k h a c o d m ++ rest = ([k, a] ++ beL 8 (u64N h) ++ beL 8 (u64N c) ++ beL 8 (u64N o) ++ beL 3 d.length ++ beL 3 m.length) ++ d ++ (m ++ rest) by simp [encB]]
  exact fld_mid _ _ _ _ _ (by simp [beL_length]) rfl
theorem enc_m : fld (encB k h a c o d m ++ rest) (32 + d.length) m.length = m := by
  rw [show encB k h a c o d m ++ rest = ([k, a] ++ beL 8 (u64N h) ++ beL 8 (u64N c) ++ beL 8 (u64N o) ++ beL 3 d.length ++ beL 3 m.length ++ d) ++ m ++ rest by simp [encB]]
  exact fld_mid _ _ _ _ _ (by simp [beL_length]; omega) rfl
/-- whatever stands behind -/
theorem next_enc (hh : -9223372036854775808 ≤ h ∧ h ≤ 9223372036854775807) (hc : -9223372036854775808 ≤ c ∧ c ≤ 9223372036854775807) (ho : -9223372036854775808 ≤ o ∧ o ≤ 9223372036854775807) (hd : d.length ≤ 16777215) (hm : m.length ≤ 16777215) :
    nextR (encB k h a c o d m ++ rest) = ⟨k, h, a, c, o, d, m, 32 + d.length + m.length, 0⟩ := by
  unfold nextR
  rw [enc_nD _ _ _ _ _ _ _ _ hd, enc_nM _ _ _ _ _ _ _ _ hm, if_pos (by rw [List.length_append, encB_length]; omega), enc_h, enc_c, enc_o, enc_d, enc_m, i64_u64 _ hh.1 hh.2, i64_u64 _ hc.1 hc.2, i64_u64 _ ho.1 ho.2]
  rfl
theorem dec_enc (hh : -9223372036854775808 ≤ h ∧ h ≤ 9223372036854775807) (hc : -9223372036854775808 ≤ c ∧ c ≤ 9223372036854775807) (ho : -9223372036854775808 ≤ o ∧ o ≤ 9223372036854775807) (hd : d.length ≤ 16777215) (hm : m.length ≤ 16777215) :
    decR (encB k h a c o d m) = ⟨k, h, a, c, o, d, m, 32 + d.length + m.length, 0⟩ := by
  have hn := next_enc k h a c o d m [] hh hc ho hd hm
  rw [List.append_nil] at hn
  unfold decR
  rw [hn, if_pos ⟨rfl, (encB_length _ _ _ _ _ _ _).symm⟩]
/-- cut off anywhere: refused -/
theorem next_cut (j : Nat) (hd : d.length ≤ 16777215) (hm : m.length ≤ 16777215) (hj : j < 32 + d.length + m.length) : nextR ((encB k h a c o d m ++ rest).take j) = noNext := by
  unfold nextR
  rw [if_neg]
  rintro ⟨h1, h2⟩
  have hj2 : ((encB k h a c o d m ++ rest).take j).length = j := by rw [List.length_take, List.length_append, encB_length]; omega
  rw [hj2] at h1 h2
  have e1 : nD ((encB k h a c o d m ++ rest).take j) = d.length := by
    rw [← enc_nD k h a c o d m rest hd]
    unfold nD fld
    rw [List.drop_take, List.take_take, Nat.min_eq_left (by omega)]
  have e2 : nM ((encB k h a c o d m ++ rest).take j) = m.length := by
    rw [← enc_nM k h a c o d m rest hm]
    unfold nM fld
    rw [List.drop_take, List.take_take, Nat.min_eq_left (by omega)]
  rw [e1, e2] at h2
  omega
end
end Go.Proofs.Ytgfhnbjpdhdhgaa
