/- SHA-256 of one block, plain. -/
import Derived.Test.YtcnphkmcgefjoaaRot
import Derived.Test.YtcnphkmcgefjoaaLay
import Derived.Test.YtcnphkmcgefjoaaShaG
namespace Go.Proofs.Ytcnphkmcgefjoaa
open Go.RowKit
set_option linter.unusedVariables false

def ror32 (x : UInt32) (n : Nat) : UInt32 := UInt32.ofNat (rotN 32 x.toNat (32 - n))
def at32 (l : List UInt32) (k : Nat) : UInt32 := l.getD k 0
def kTab2 : List UInt32 := [
    0x428a2f98, 0x71374491, 0xb5c0fbcf, 0xe9b5dba5, 0x3956c25b, 0x59f111f1, 0x923f82a4, 0xab1c5ed5,
    0xd807aa98, 0x12835b01, 0x243185be, 0x550c7dc3, 0x72be5d74, 0x80deb1fe, 0x9bdc06a7, 0xc19bf174,
    0xe49b69c1, 0xefbe4786, 0x0fc19dc6, 0x240ca1cc, 0x2de92c6f, 0x4a7484aa, 0x5cb0a9dc, 0x76f988da,
    0x983e5152, 0xa831c66d, 0xb00327c8, 0xbf597fc7, 0xc6e00bf3, 0xd5a79147, 0x06ca6351, 0x14292967,
    0x27b70a85, 0x2e1b2138, 0x4d2c6dfc, 0x53380d13, 0x650a7354, 0x766a0abb, 0x81c2c92e, 0x92722c85,
    0xa2bfe8a1, 0xa81a664b, 0xc24b8b70, 0xc76c51a3, 0xd192e819, 0xd6990624, 0xf40e3585, 0x106aa070,
    0x19a4c116, 0x1e376c08, 0x2748774c, 0x34b0bcb5, 0x391c0cb3, 0x4ed8aa4a, 0x5b9cca4f, 0x682e6ff3,
    0x748f82ee, 0x78a5636f, 0x84c87814, 0x8cc70208, 0x90befffa, 0xa4506ceb, 0xbef9a3f7, 0xc67178f2]
def sg0 (x : UInt32) : UInt32 := ror32 x 7 ^^^ ror32 x 18 ^^^ (x >>> 3)
def sg1 (x : UInt32) : UInt32 := ror32 x 17 ^^^ ror32 x 19 ^^^ (x >>> 10)
def wNext2 (w : List UInt32) (t : Nat) : UInt32 := sg1 (at32 w (t - 2)) + at32 w (t - 7) + sg0 (at32 w (t - 15)) + at32 w (t - 16)
def wTo2 (b : List UInt8) : Nat → List UInt32
  | 0 => List.replicate 64 0
  | t + 1 => (wTo2 b t).set t (if t < 16 then UInt32.ofNat (beTo b (4 * t : Nat) 4) else wNext2 (wTo2 b t) t)
structure R8 where
  a : UInt32
  b : UInt32
  c : UInt32
  d : UInt32
  e : UInt32
  f : UInt32
  g : UInt32
  h : UInt32
def pOf2 (k w : UInt32) (x : R8) : UInt32 := x.h + (ror32 x.e 6 ^^^ ror32 x.e 11 ^^^ ror32 x.e 25) + ((x.e &&& x.f) ^^^ (~~~x.e &&& x.g)) + k + w
def qOf2 (x : R8) : UInt32 := (ror32 x.a 2 ^^^ ror32 x.a 13 ^^^ ror32 x.a 22) + ((x.a &&& x.b) ^^^ (x.a &&& x.c) ^^^ (x.b &&& x.c))
def rnd2 (k w : UInt32) (x : R8) : R8 := ⟨pOf2 k w x + qOf2 x, x.a, x.b, x.c, x.d + pOf2 k w x, x.e, x.f, x.g⟩
def rTo2 (w : List UInt32) (x : R8) : Nat → R8
  | 0 => x
  | t + 1 => rnd2 (at32 kTab2 t) (at32 w t) (rTo2 w x t)
def R8.list (x : R8) : List UInt32 := [x.a, x.b, x.c, x.d, x.e, x.f, x.g, x.h]
def R8.of (l : List UInt32) : R8 := ⟨at32 l 0, at32 l 1, at32 l 2, at32 l 3, at32 l 4, at32 l 5, at32 l 6, at32 l 7⟩
def comp2 (h : List UInt32) (b : List UInt8) : List UInt32 := (List.range 8).map fun i => at32 h i + at32 (rTo2 (wTo2 b 64) (R8.of h) 64).list i
def hBeg2 : List UInt32 := [0x6a09e667, 0xbb67ae85, 0x3c6ef372, 0xa54ff53a, 0x510e527f, 0x9b05688c, 0x1f83d9ab, 0x5be0cd19]

theorem comp2_length (h : List UInt32) (b : List UInt8) : (comp2 h b).length = 8 := by unfold comp2; rw [List.length_map, List.length_range]

theorem wTo2_length (b : List UInt8) (t : Nat) : (wTo2 b t).length = 64 := by
  induction t with
  | zero => exact List.length_replicate ..
  | succ t ih => unfold wTo2; rw [List.length_set]; exact ih

theorem kTab2_length : kTab2.length = 64 := rfl

def u32v (x : UInt32) : Value := .int .u32 (x.toNat : Int)

theorem u32_get {l : List UInt32} {k : Nat} (h : k < l.length) : (l.map u32v)[k]? = some (.int .u32 ((at32 l k).toNat : Int)) := by
  rw [List.getElem?_map, List.getElem?_eq_getElem h]; simp [u32v, h, at32]

theorem u32_set (l : List UInt32) (k : Nat) (x : UInt32) : (l.map u32v).set k (u32v x) = (l.set k x).map u32v := by simp [List.map_set]

theorem u32_one (l : List UInt32) : ∀ v ∈ l.map u32v, v.oneCell' = true := by
  intro v hv
  obtain ⟨x, -, rfl⟩ := List.mem_map.1 hv
  rfl

theorem xor32 (x y : UInt32) : bits .xor .u32 (x.toNat : Int) (y.toNat : Int) = ((x ^^^ y).toNat : Int) := by
  rw [u32_xor_nat _ _ x.toNat_lt y.toNat_lt, UInt32.toNat_xor]

theorem and32 (x y : UInt32) : bits .and .u32 (x.toNat : Int) (y.toNat : Int) = ((x &&& y).toNat : Int) := by
  rw [u32_and_nat _ _ x.toNat_lt y.toNat_lt, UInt32.toNat_and]

theorem or32 (x y : UInt32) : bits .or .u32 (x.toNat : Int) (y.toNat : Int) = ((x ||| y).toNat : Int) := by
  rw [u32_or_nat _ _ x.toNat_lt y.toNat_lt, UInt32.toNat_or]

theorem not32 (x : UInt32) : bits .xor .u32 (if IntKind.u32.signed = true then -1 else IntKind.u32.max) (x.toNat : Int) = ((~~~x).toNat : Int) := by
  rw [show (if IntKind.u32.signed = true then -1 else IntKind.u32.max) = (((-1 : UInt32).toNat : Nat) : Int) from by decide, xor32, UInt32.neg_one_xor]

theorem add32 (x y : UInt32) : ((x.toNat : Int) + (y.toNat : Int)) % 4294967296 = ((x + y).toNat : Int) := by
  rw [UInt32.toNat_add]; omega

theorem shr32 (x : UInt32) (n : Nat) (hn : n < 32) : (x.toNat : Int) / 2 ^ n = ((x >>> UInt32.ofNat n).toNat : Int) := by
  rw [UInt32.toNat_shiftRight, UInt32.toNat_ofNat', Nat.mod_eq_of_lt (a := n) (by omega), Nat.mod_eq_of_lt hn, Nat.shiftRight_eq_div_pow]
  rw [Int.natCast_ediv, Int.natCast_pow]
  rfl

theorem ror32_toNat (x : UInt32) (n : Nat) (h : n < 32) (h1 : 1 ≤ n) : (ror32 x n).toNat = rotN 32 x.toNat (32 - n) := by
  unfold ror32
  rw [UInt32.toNat_ofNat']
  exact Nat.mod_eq_of_lt (rotN_lt 32 x.toNat (32 - n) (by omega) x.toNat_lt)

end Go.Proofs.Ytcnphkmcgefjoaa
