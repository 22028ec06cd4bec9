/- The permutation in plain lists of words: as the program goes, and as the document goes; they are one. -/
import Derived.Test.YtgjlclihgpahbaaRot
import Derived.KernelRfl
namespace Go.Proofs.Ytgjlclihgpahbaa
/-- k rounds of a loop whose body is f -/
def iter {α : Type} (f : α → Nat → α) (a : α) : Nat → α
  | 0 => a
  | k + 1 => f (iter f a k) k
theorem iter_length {α : Type} (f : List α → Nat → List α) (a : List α) (h : ∀ l i, (f l i).length = l.length) (k : Nat) : (iter f a k).length = a.length := by
  induction k with
  | zero => rfl
  | succ k ih => show (f (iter f a k) k).length = _; rw [h, ih]
def at64 (l : List UInt64) (i : Nat) : UInt64 := l.getD i 0
def rotl (x : UInt64) (n : Nat) : UInt64 := UInt64.ofNat (rotN 64 x.toNat (n % 64))
theorem rotl_toNat (x : UInt64) (n : Nat) : (rotl x n).toNat = rotN 64 x.toNat (n % 64) := by
  unfold rotl
  rw [UInt64.toNat_ofNat', Nat.mod_eq_of_lt (rotN_lt 64 _ _ (Nat.mod_lt _ (by omega)) x.toNat_lt)]
/- the program's way -/
def kCol (s : List UInt64) (k : Nat) : List UInt64 := iter (fun c i => c.set (i % 5) (at64 c (i % 5) ^^^ at64 s i)) (List.replicate 5 0) k
def kMix (c s : List UInt64) (k : Nat) : List UInt64 := iter (fun a i => a.set i (at64 a i ^^^ (at64 c ((i + 4) % 5) ^^^ rotl (at64 c ((i + 1) % 5)) 1))) s k
def kTheta (s : List UInt64) : List UInt64 := kMix (kCol s 25) s 25
def kPlace (t : Nat) : Nat × Nat := iter (fun p _ => (p.2, (2 * p.1 + 3 * p.2) % 5)) (1, 0) t
def kWalkTo (a : List UInt64) (k : Nat) : List UInt64 :=
  iter (fun b t => b.set ((kPlace t).2 + 5 * ((2 * (kPlace t).1 + 3 * (kPlace t).2) % 5)) (rotl (at64 a ((kPlace t).1 + 5 * (kPlace t).2)) ((t + 1) * (t + 2) / 2))) ((List.replicate 25 0).set 0 (at64 a 0)) k
def kWalk (a : List UInt64) : List UInt64 := kWalkTo a 24
def kChiTo (b s : List UInt64) (k : Nat) : List UInt64 := iter (fun s i => s.set i (at64 b i ^^^ (~~~(at64 b (i - i % 5 + (i + 1) % 5)) &&& at64 b (i - i % 5 + (i + 2) % 5)))) s k
def kRound (s : List UInt64) (c : UInt64) : List UInt64 :=
  (kChiTo (kWalk (kTheta s)) (kTheta s) 25).set 0 (at64 (kChiTo (kWalk (kTheta s)) (kTheta s) 25) 0 ^^^ c)
/- the constants -/
def lfsr (r : UInt8) : UInt8 := UInt8.xor (r <<< 1) (UInt8.land 0x71 (UInt8.sub 0 (r >>> 7)))
def kConJ (i : Nat) (st : List UInt64 × UInt8) (k : Nat) : List UInt64 × UInt8 :=
  iter (fun st j => (st.1.set i (at64 st.1 i ||| ((st.2 &&& 1).toUInt64 <<< UInt64.ofNat (2 ^ j - 1))), lfsr st.2)) st k
def kConI (k : Nat) : List UInt64 × UInt8 := iter (fun st i => kConJ i st 7) (List.replicate 24 0, 1) k
def kConsts : List UInt64 := [0x1, 0x8082, 0x800000000000808A, 0x8000000080008000, 0x808B, 0x80000001, 0x8000000080008081, 0x8000000000008009, 0x8A, 0x88, 0x80008009, 0x8000000A, 0x8000808B, 0x800000000000008B, 0x8000000000008089, 0x8000000000008003, 0x8000000000008002, 0x8000000000000080, 0x800A, 0x800000008000000A, 0x8000000080008081, 0x8000000000008080, 0x80000001, 0x8000000080008008]
theorem kConJ_length (i : Nat) (st : List UInt64 × UInt8) (k : Nat) : (kConJ i st k).1.length = st.1.length := by
  induction k with
  | zero => rfl
  | succ k ih => show ((kConJ i st k).1.set i _).length = _; rw [List.length_set, ih]
theorem kConI_length (k : Nat) : (kConI k).1.length = 24 := by
  induction k with
  | zero => rfl
  | succ k ih => show (kConJ k (kConI k) 7).1.length = _; rw [kConJ_length, ih]
theorem kConI_24 : (kConI 24).1 = kConsts := by decide +kernel
def kPermTo (s : List UInt64) (k : Nat) : List UInt64 := iter (fun s i => kRound s (at64 kConsts i)) s k
def kPerm (s : List UInt64) : List UInt64 := kPermTo s 24
/- the document's way -/
def rLane (x y : Nat) : Nat := x % 5 + 5 * (y % 5)
def rColY (a : List UInt64) (x : Nat) (p : List UInt64) (k : Nat) : List UInt64 := iter (fun p y => p.set x (at64 p x ^^^ at64 a (rLane x y))) p k
def rCol (a : List UInt64) (k : Nat) : List UInt64 := iter (fun p x => rColY a x p 5) (List.replicate 5 0) k
def rMixY (d : UInt64) (x : Nat) (a : List UInt64) (k : Nat) : List UInt64 := iter (fun a y => a.set (rLane x y) (at64 a (rLane x y) ^^^ d)) a k
def rMix (p a : List UInt64) (k : Nat) : List UInt64 := iter (fun a x => rMixY (at64 p ((x + 4) % 5) ^^^ rotl (at64 p ((x + 1) % 5)) 1) x a 5) a k
def rWalk (a : List UInt64) (k : Nat) : List UInt64 :=
  iter (fun b t => b.set (rLane (kPlace t).2 (2 * (kPlace t).1 + 3 * (kPlace t).2)) (rotl (at64 a (rLane (kPlace t).1 (kPlace t).2)) ((t + 1) * (t + 2) / 2))) ((List.replicate 25 0).set 0 (at64 a 0)) k
def rChiY (b : List UInt64) (x : Nat) (a : List UInt64) (k : Nat) : List UInt64 := iter (fun a y => a.set (rLane x y) (at64 b (rLane x y) ^^^ (~~~(at64 b (rLane (x + 1) y)) &&& at64 b (rLane (x + 2) y)))) a k
def rChi (b a : List UInt64) (k : Nat) : List UInt64 := iter (fun a x => rChiY b x a 5) a k
def rRound (a : List UInt64) (c : UInt64) : List UInt64 :=
  (rChi (rWalk (rMix (rCol a 5) a 5) 24) (rMix (rCol a 5) a 5) 5).set 0 (at64 (rChi (rWalk (rMix (rCol a 5) a 5) 24) (rMix (rCol a 5) a 5) 5) 0 ^^^ c)

theorem mix_one (s0 s1 s2 s3 s4 s5 s6 s7 s8 s9 s10 s11 s12 s13 s14 s15 s16 s17 s18 s19 s20 s21 s22 s23 s24 : UInt64) :
    rMix (rCol [s0, s1, s2, s3, s4, s5, s6, s7, s8, s9, s10, s11, s12, s13, s14, s15, s16, s17, s18, s19, s20, s21, s22, s23, s24] 5) [s0, s1, s2, s3, s4, s5, s6, s7, s8, s9, s10, s11, s12, s13, s14, s15, s16, s17, s18, s19, s20, s21, s22, s23, s24] 5 =
    kTheta [s0, s1, s2, s3, s4, s5, s6, s7, s8, s9, s10, s11, s12, s13, s14, s15, s16, s17, s18, s19, s20, s21, s22, s23, s24] := by kernel_rfl
theorem walk_one (s0 s1 s2 s3 s4 s5 s6 s7 s8 s9 s10 s11 s12 s13 s14 s15 s16 s17 s18 s19 s20 s21 s22 s23 s24 : UInt64) :
    rWalk [s0, s1, s2, s3, s4, s5, s6, s7, s8, s9, s10, s11, s12, s13, s14, s15, s16, s17, s18, s19, s20, s21, s22, s23, s24] 24 =
    kWalk [s0, s1, s2, s3, s4, s5, s6, s7, s8, s9, s10, s11, s12, s13, s14, s15, s16, s17, s18, s19, s20, s21, s22, s23, s24] := by kernel_rfl
theorem chi_one (b0 b1 b2 b3 b4 b5 b6 b7 b8 b9 b10 b11 b12 b13 b14 b15 b16 b17 b18 b19 b20 b21 b22 b23 b24 s0 s1 s2 s3 s4 s5 s6 s7 s8 s9 s10 s11 s12 s13 s14 s15 s16 s17 s18 s19 s20 s21 s22 s23 s24 : UInt64) :
    rChi [b0, b1, b2, b3, b4, b5, b6, b7, b8, b9, b10, b11, b12, b13, b14, b15, b16, b17, b18, b19, b20, b21, b22, b23, b24] [s0, s1, s2, s3, s4, s5, s6, s7, s8, s9, s10, s11, s12, s13, s14, s15, s16, s17, s18, s19, s20, s21, s22, s23, s24] 5 =
    kChiTo [b0, b1, b2, b3, b4, b5, b6, b7, b8, b9, b10, b11, b12, b13, b14, b15, b16, b17, b18, b19, b20, b21, b22, b23, b24] [s0, s1, s2, s3, s4, s5, s6, s7, s8, s9, s10, s11, s12, s13, s14, s15, s16, s17, s18, s19, s20, s21, s22, s23, s24] 25 := by kernel_rfl
theorem list25 (s : List UInt64) (h : s.length = 25) : ∃ s0 s1 s2 s3 s4 s5 s6 s7 s8 s9 s10 s11 s12 s13 s14 s15 s16 s17 s18 s19 s20 s21 s22 s23 s24 : UInt64,
    s = [s0, s1, s2, s3, s4, s5, s6, s7, s8, s9, s10, s11, s12, s13, s14, s15, s16, s17, s18, s19, s20, s21, s22, s23, s24] := by
  match s, h with
  | [s0, s1, s2, s3, s4, s5, s6, s7, s8, s9, s10, s11, s12, s13, s14, s15, s16, s17, s18, s19, s20, s21, s22, s23, s24], _ => exact ⟨_, _, _, _, _, _, _, _, _, _, _, _, _, _, _, _, _, _, _, _, _, _, _, _, _, rfl⟩
theorem kTheta_length (s : List UInt64) : (kTheta s).length = s.length := iter_length _ _ (fun l i => by simp) _
theorem kWalkTo_length (s : List UInt64) (k : Nat) : (kWalkTo s k).length = 25 := by unfold kWalkTo; rw [iter_length _ _ (fun l i => by simp)]; simp
theorem kWalk_length (s : List UInt64) : (kWalk s).length = 25 := kWalkTo_length s 24
theorem kChiTo_length (b s : List UInt64) (k : Nat) : (kChiTo b s k).length = s.length := iter_length _ _ (fun l i => by simp) _
theorem kCol_length (s : List UInt64) (k : Nat) : (kCol s k).length = 5 := by unfold kCol; rw [iter_length _ _ (fun l i => by simp)]; simp
theorem kMix_length (c s : List UInt64) (k : Nat) : (kMix c s k).length = s.length := iter_length _ _ (fun l i => by simp) _
theorem kRound_length (s : List UInt64) (c : UInt64) : (kRound s c).length = s.length := by unfold kRound; rw [List.length_set, kChiTo_length, kTheta_length]
theorem kPermTo_length (s : List UInt64) (k : Nat) : (kPermTo s k).length = s.length := iter_length _ _ (fun l i => kRound_length l _) _
theorem rMix_eq (s : List UInt64) (h : s.length = 25) : rMix (rCol s 5) s 5 = kTheta s := by
  obtain ⟨s0, s1, s2, s3, s4, s5, s6, s7, s8, s9, s10, s11, s12, s13, s14, s15, s16, s17, s18, s19, s20, s21, s22, s23, s24, rfl⟩ := list25 s h
  exact mix_one ..
theorem rWalk_eq (s : List UInt64) (h : s.length = 25) : rWalk s 24 = kWalk s := by
  obtain ⟨s0, s1, s2, s3, s4, s5, s6, s7, s8, s9, s10, s11, s12, s13, s14, s15, s16, s17, s18, s19, s20, s21, s22, s23, s24, rfl⟩ := list25 s h
  exact walk_one ..
theorem rChi_eq (b s : List UInt64) (hb : b.length = 25) (h : s.length = 25) : rChi b s 5 = kChiTo b s 25 := by
  obtain ⟨s0, s1, s2, s3, s4, s5, s6, s7, s8, s9, s10, s11, s12, s13, s14, s15, s16, s17, s18, s19, s20, s21, s22, s23, s24, rfl⟩ := list25 s h
  obtain ⟨b0, b1, b2, b3, b4, b5, b6, b7, b8, b9, b10, b11, b12, b13, b14, b15, b16, b17, b18, b19, b20, b21, b22, b23, b24, rfl⟩ := list25 b hb
  exact chi_one ..
theorem rRound_eq (s : List UInt64) (c : UInt64) (h : s.length = 25) : rRound s c = kRound s c := by
  unfold rRound kRound
  rw [rMix_eq s h, rWalk_eq _ (by rw [kTheta_length]; exact h), rChi_eq _ _ (kWalk_length _) (by rw [kTheta_length]; exact h)]
theorem perm_known : at64 (kPerm (List.replicate 25 0)) 0 = 0xf1258f7940e1dde7 := by decide +kernel
end Go.Proofs.Ytgjlclihgpahbaa
