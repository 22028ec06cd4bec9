/- SHA-512 of one block, plain. -/
import Derived.Test.YthieegmmbjjcbaaRot
import Derived.Test.YthieegmmbjjcbaaLay
import Derived.Test.YthieegmmbjjcbaaShaG
namespace Go.Proofs.Ythieegmmbjjcbaa
open Go.RowKit
set_option linter.unusedVariables false

def ror64 (x : UInt64) (n : Nat) : UInt64 := UInt64.ofNat (rotN 64 x.toNat (64 - n))
def at64 (l : List UInt64) (k : Nat) : UInt64 := l.getD k 0
def kTab5 : List UInt64 := [
    0x428a2f98d728ae22, 0x7137449123ef65cd, 0xb5c0fbcfec4d3b2f, 0xe9b5dba58189dbbc,
    0x3956c25bf348b538, 0x59f111f1b605d019, 0x923f82a4af194f9b, 0xab1c5ed5da6d8118,
    0xd807aa98a3030242, 0x12835b0145706fbe, 0x243185be4ee4b28c, 0x550c7dc3d5ffb4e2,
    0x72be5d74f27b896f, 0x80deb1fe3b1696b1, 0x9bdc06a725c71235, 0xc19bf174cf692694,
    0xe49b69c19ef14ad2, 0xefbe4786384f25e3, 0x0fc19dc68b8cd5b5, 0x240ca1cc77ac9c65,
    0x2de92c6f592b0275, 0x4a7484aa6ea6e483, 0x5cb0a9dcbd41fbd4, 0x76f988da831153b5,
    0x983e5152ee66dfab, 0xa831c66d2db43210, 0xb00327c898fb213f, 0xbf597fc7beef0ee4,
    0xc6e00bf33da88fc2, 0xd5a79147930aa725, 0x06ca6351e003826f, 0x142929670a0e6e70,
    0x27b70a8546d22ffc, 0x2e1b21385c26c926, 0x4d2c6dfc5ac42aed, 0x53380d139d95b3df,
    0x650a73548baf63de, 0x766a0abb3c77b2a8, 0x81c2c92e47edaee6, 0x92722c851482353b,
    0xa2bfe8a14cf10364, 0xa81a664bbc423001, 0xc24b8b70d0f89791, 0xc76c51a30654be30,
    0xd192e819d6ef5218, 0xd69906245565a910, 0xf40e35855771202a, 0x106aa07032bbd1b8,
    0x19a4c116b8d2d0c8, 0x1e376c085141ab53, 0x2748774cdf8eeb99, 0x34b0bcb5e19b48a8,
    0x391c0cb3c5c95a63, 0x4ed8aa4ae3418acb, 0x5b9cca4f7763e373, 0x682e6ff3d6b2b8a3,
    0x748f82ee5defb2fc, 0x78a5636f43172f60, 0x84c87814a1f0ab72, 0x8cc702081a6439ec,
    0x90befffa23631e28, 0xa4506cebde82bde9, 0xbef9a3f7b2c67915, 0xc67178f2e372532b,
    0xca273eceea26619c, 0xd186b8c721c0c207, 0xeada7dd6cde0eb1e, 0xf57d4f7fee6ed178,
    0x06f067aa72176fba, 0x0a637dc5a2c898a6, 0x113f9804bef90dae, 0x1b710b35131c471b,
    0x28db77f523047d84, 0x32caab7b40c72493, 0x3c9ebe0a15c9bebc, 0x431d67c49c100d4c,
    0x4cc5d4becb3e42b6, 0x597f299cfc657e2a, 0x5fcb6fab3ad6faec, 0x6c44198c4a475817]
def sg50 (x : UInt64) : UInt64 := ror64 x 1 ^^^ ror64 x 8 ^^^ (x >>> 7)
def sg51 (x : UInt64) : UInt64 := ror64 x 19 ^^^ ror64 x 61 ^^^ (x >>> 6)
def wNext5 (w : List UInt64) (t : Nat) : UInt64 := sg51 (at64 w (t - 2)) + at64 w (t - 7) + sg50 (at64 w (t - 15)) + at64 w (t - 16)
def wTo5 (b : List UInt8) : Nat → List UInt64
  | 0 => List.replicate 80 0
  | t + 1 => (wTo5 b t).set t (if t < 16 then UInt64.ofNat (beTo b (8 * t : Nat) 8) else wNext5 (wTo5 b t) t)
structure R85 where
  a : UInt64
  b : UInt64
  c : UInt64
  d : UInt64
  e : UInt64
  f : UInt64
  g : UInt64
  h : UInt64
def pOf5 (k w : UInt64) (x : R85) : UInt64 := x.h + (ror64 x.e 14 ^^^ ror64 x.e 18 ^^^ ror64 x.e 41) + ((x.e &&& x.f) ^^^ (~~~x.e &&& x.g)) + k + w
def qOf5 (x : R85) : UInt64 := (ror64 x.a 28 ^^^ ror64 x.a 34 ^^^ ror64 x.a 39) + ((x.a &&& x.b) ^^^ (x.a &&& x.c) ^^^ (x.b &&& x.c))
def rnd5 (k w : UInt64) (x : R85) : R85 := ⟨pOf5 k w x + qOf5 x, x.a, x.b, x.c, x.d + pOf5 k w x, x.e, x.f, x.g⟩
def rTo5 (w : List UInt64) (x : R85) : Nat → R85
  | 0 => x
  | t + 1 => rnd5 (at64 kTab5 t) (at64 w t) (rTo5 w x t)
def R85.list (x : R85) : List UInt64 := [x.a, x.b, x.c, x.d, x.e, x.f, x.g, x.h]
def R85.of (l : List UInt64) : R85 := ⟨at64 l 0, at64 l 1, at64 l 2, at64 l 3, at64 l 4, at64 l 5, at64 l 6, at64 l 7⟩
def comp5 (h : List UInt64) (b : List UInt8) : List UInt64 := (List.range 8).map fun i => at64 h i + at64 (rTo5 (wTo5 b 80) (R85.of h) 80).list i
def hBeg5 : List UInt64 := [0x6a09e667f3bcc908, 0xbb67ae8584caa73b, 0x3c6ef372fe94f82b, 0xa54ff53a5f1d36f1, 0x510e527fade682d1, 0x9b05688c2b3e6c1f, 0x1f83d9abfb41bd6b, 0x5be0cd19137e2179]

theorem comp5_length (h : List UInt64) (b : List UInt8) : (comp5 h b).length = 8 := by unfold comp5; rw [List.length_map, List.length_range]

theorem wTo5_length (b : List UInt8) (t : Nat) : (wTo5 b t).length = 80 := by
  induction t with
  | zero => exact List.length_replicate ..
  | succ t ih => unfold wTo5; rw [List.length_set]; exact ih

theorem kTab5_length : kTab5.length = 80 := rfl

def u64v (x : UInt64) : Value := .int .u64 (x.toNat : Int)

theorem u64_get {l : List UInt64} {k : Nat} (h : k < l.length) : (l.map u64v)[k]? = some (.int .u64 ((at64 l k).toNat : Int)) := by
  rw [List.getElem?_map, List.getElem?_eq_getElem h]; simp [u64v, h, at64]

theorem u64_set (l : List UInt64) (k : Nat) (x : UInt64) : (l.map u64v).set k (u64v x) = (l.set k x).map u64v := by simp [List.map_set]

theorem u64_one (l : List UInt64) : ∀ v ∈ l.map u64v, v.oneCell' = true := by
  intro v hv
  obtain ⟨x, -, rfl⟩ := List.mem_map.1 hv
  rfl

theorem xor64 (x y : UInt64) : bits .xor .u64 (x.toNat : Int) (y.toNat : Int) = ((x ^^^ y).toNat : Int) := by
  rw [u64_xor_nat _ _ x.toNat_lt y.toNat_lt, UInt64.toNat_xor]

theorem and64 (x y : UInt64) : bits .and .u64 (x.toNat : Int) (y.toNat : Int) = ((x &&& y).toNat : Int) := by
  rw [u64_and_nat _ _ x.toNat_lt y.toNat_lt, UInt64.toNat_and]

theorem or64 (x y : UInt64) : bits .or .u64 (x.toNat : Int) (y.toNat : Int) = ((x ||| y).toNat : Int) := by
  rw [u64_or_nat _ _ x.toNat_lt y.toNat_lt, UInt64.toNat_or]

theorem not64 (x : UInt64) : bits .xor .u64 (if IntKind.u64.signed = true then -1 else IntKind.u64.max) (x.toNat : Int) = ((~~~x).toNat : Int) := by
  rw [show (if IntKind.u64.signed = true then -1 else IntKind.u64.max) = (((-1 : UInt64).toNat : Nat) : Int) from by decide, xor64, UInt64.neg_one_xor]

theorem add64 (x y : UInt64) : ((x.toNat : Int) + (y.toNat : Int)) % 18446744073709551616 = ((x + y).toNat : Int) := by
  rw [UInt64.toNat_add]; omega

theorem shr64 (x : UInt64) (n : Nat) (hn : n < 64) : (x.toNat : Int) / 2 ^ n = ((x >>> UInt64.ofNat n).toNat : Int) := by
  rw [UInt64.toNat_shiftRight, UInt64.toNat_ofNat', Nat.mod_eq_of_lt (a := n) (by omega), Nat.mod_eq_of_lt hn, Nat.shiftRight_eq_div_pow]
  rw [Int.natCast_ediv, Int.natCast_pow]
  rfl

theorem ror64_toNat (x : UInt64) (n : Nat) (h : n < 64) (h1 : 1 ≤ n) : (ror64 x n).toNat = rotN 64 x.toNat (64 - n) := by
  unfold ror64
  rw [UInt64.toNat_ofNat']
  exact Nat.mod_eq_of_lt (rotN_lt 64 x.toNat (64 - n) (by omega) x.toNat_lt)

end Go.Proofs.Ythieegmmbjjcbaa
