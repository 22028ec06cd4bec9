/- A sponge, plain: its bytes, its rate, its suffix, its place, whether it is shut. -/
import Derived.Test.YtgjlclihgpahbaaKecF
import Derived.Test.YtgjlclihgpahbaaLedW

namespace Go.Proofs.Ytgjlclihgpahbaa
open Go.RowKit
set_option linter.unusedVariables false
set_option maxRecDepth 100000

def permB (b : List UInt8) : List UInt8 := kBytes (kPerm (kFrom b))

theorem permB_length (b : List UInt8) : (permB b).length = 200 := by
  unfold permB kBytes kPerm; rw [flat_len, kPermTo_length, kFrom_length]

attribute [local irreducible] permB kBytes kPerm kFrom

structure Sp where
  b : List UInt8
  r : Nat
  f : UInt8
  p : Nat
  s : Bool

structure Sp.Ok (x : Sp) : Prop where
  hb : x.b.length = 200
  r8 : 8 ≤ x.r
  r192 : x.r ≤ 192
  pr : x.p ≤ x.r
  op : x.s = false → x.p < x.r

def Sp.vs (x : Sp) : List Value := x.b.map vb ++ [.int .i64 x.r, .int .u8 (x.f.toNat : Int), .int .i64 x.p, .bool x.s]

def Sp.vsR (x : Sp) : List Value := x.b.map vb ++ [.int .i64 x.r, .int .u8 (x.f.toNat : Int), .int .i64 x.p, .bool x.s, .bool false]

def Sp.new (r : Nat) (f : UInt8) : Sp := ⟨List.replicate 200 0, r, f, 0, false⟩

theorem Sp.new_ok (r : Nat) (f : UInt8) (h : 8 ≤ r) (h' : r ≤ 192) : (Sp.new r f).Ok := ⟨by show (List.replicate 200 (0 : UInt8)).length = 200; rw [List.length_replicate], h, h', Nat.zero_le _, fun _ => by show 0 < r; omega⟩

def Sp.perm (x : Sp) : Sp := ⟨permB x.b, x.r, x.f, 0, x.s⟩

def xorAt (b : List UInt8) (k : Nat) (c : UInt8) : List UInt8 := b.set k (b.getD k 0 ^^^ c)

theorem xorAt_length (b : List UInt8) (k : Nat) (c : UInt8) : (xorAt b k c).length = b.length := by simp [xorAt]

def Sp.lay (x : Sp) (c : UInt8) : Sp := ⟨xorAt x.b x.p c, x.r, x.f, x.p + 1, x.s⟩

def Sp.put (x : Sp) (c : UInt8) : Sp := if x.p + 1 = x.r then (x.lay c).perm else x.lay c

def Sp.write (x : Sp) (l : List UInt8) : Sp := l.foldl Sp.put x

def Sp.ends (x : Sp) : Sp := ⟨xorAt (xorAt x.b x.p x.f) (x.r - 1) 128, x.r, x.f, x.p, x.s⟩

def Sp.close (x : Sp) : Sp := ⟨permB x.ends.b, x.r, x.f, 0, true⟩

def Sp.turn (x : Sp) : Sp := if x.p = x.r then x.perm else x

def Sp.go (x : Sp) (k : Nat) : Sp := ⟨x.b, x.r, x.f, x.p + k, x.s⟩

def Sp.get (x : Sp) : UInt8 := x.turn.b.getD x.turn.p 0

def Sp.after (x : Sp) : Nat → Sp
  | 0 => x
  | n + 1 => (x.after n).turn.go 1

def Sp.read (x : Sp) (n : Nat) : List UInt8 := (List.range n).map fun i => (x.after i).get

theorem Sp.write_nil (x : Sp) : x.write [] = x := rfl

theorem Sp.write_append (x : Sp) (l m : List UInt8) : x.write (l ++ m) = (x.write l).write m := List.foldl_append

theorem Sp.write_snoc (x : Sp) (l : List UInt8) (c : UInt8) : x.write (l ++ [c]) = (x.write l).put c := by rw [Sp.write_append]; rfl

theorem Sp.write_succ (x : Sp) {l : List UInt8} {k : Nat} {c : UInt8} (h : l[k]? = some c) : x.write (l.take (k + 1)) = (x.write (l.take k)).put c := by
  rw [List.take_add_one, h, Option.toList_some, Sp.write_snoc]

theorem Sp.put_eq (x : Sp) (c : UInt8) : x.put c = if x.p + 1 = x.r then (x.lay c).perm else x.lay c := rfl

theorem Sp.put_yes {x : Sp} (c : UInt8) (h : x.p + 1 = x.r) : x.put c = (x.lay c).perm := if_pos h

theorem Sp.put_no {x : Sp} (c : UInt8) (h : ¬ x.p + 1 = x.r) : x.put c = x.lay c := if_neg h

theorem Sp.put_r (x : Sp) (c : UInt8) : (x.put c).r = x.r ∧ (x.put c).f = x.f ∧ (x.put c).s = x.s := by
  by_cases h : x.p + 1 = x.r
  · rw [Sp.put_yes c h]; exact ⟨rfl, rfl, rfl⟩
  · rw [Sp.put_no c h]; exact ⟨rfl, rfl, rfl⟩

theorem Sp.write_r (l : List UInt8) : ∀ x : Sp, (x.write l).r = x.r ∧ (x.write l).f = x.f ∧ (x.write l).s = x.s := by
  induction l with
  | nil => intro x; exact ⟨rfl, rfl, rfl⟩
  | cons c l ih =>
    intro x
    obtain ⟨h1, h2, h3⟩ := ih (x.put c)
    obtain ⟨k1, k2, k3⟩ := Sp.put_r x c
    exact ⟨h1.trans k1, h2.trans k2, h3.trans k3⟩

theorem Sp.put_ok {x : Sp} (h : x.Ok) (c : UInt8) (hp : x.p < x.r) : (x.put c).Ok ∧ (x.put c).p < (x.put c).r := by
  by_cases he : x.p + 1 = x.r
  · rw [Sp.put_yes c he]
    have := h.r8
    exact ⟨⟨permB_length _, h.r8, h.r192, Nat.zero_le _, fun _ => by show 0 < x.r; omega⟩, by show 0 < x.r; omega⟩
  · rw [Sp.put_no c he]
    have h1 : x.p + 1 < x.r := by omega
    exact ⟨⟨by show (xorAt _ _ _).length = 200; rw [xorAt_length]; exact h.hb, h.r8, h.r192, by show x.p + 1 ≤ x.r; omega, fun _ => h1⟩, h1⟩

theorem Sp.write_ok (l : List UInt8) : ∀ {x : Sp}, x.Ok → x.p < x.r → (x.write l).Ok ∧ (x.write l).p < (x.write l).r := by
  induction l with
  | nil => intro x h hp; exact ⟨h, hp⟩
  | cons c l ih => intro x h hp; have := Sp.put_ok h c hp; exact ih this.1 this.2

theorem Sp.put_p (x : Sp) (c : UInt8) (hp : x.p < x.r) : (x.put c).p = (x.p + 1) % x.r := by
  by_cases h : x.p + 1 = x.r
  · rw [Sp.put_yes c h, h, Nat.mod_self]; rfl
  · rw [Sp.put_no c h, Nat.mod_eq_of_lt (by omega)]; rfl

theorem Sp.write_p (l : List UInt8) : ∀ {x : Sp}, x.p < x.r → (x.write l).p = (x.p + l.length) % x.r := by
  induction l with
  | nil => intro x hp; rw [Sp.write_nil, List.length_nil, Nat.add_zero, Nat.mod_eq_of_lt hp]
  | cons c l ih =>
    intro x hp
    have h1 := Sp.put_p x c hp
    have h2 := (Sp.put_r x c).1
    have h3 : (x.put c).p < (x.put c).r := by rw [h1, h2]; exact Nat.mod_lt _ (by omega)
    have h4 := ih h3
    rw [h1, h2] at h4
    show ((x.put c).write l).p = _
    rw [h4, List.length_cons, Nat.mod_add_mod]
    congr 1; omega

/-- how often a sponge is permuted: step by step -/
theorem count_succ (p r k : Nat) (hr : 0 < r) : (p + (k + 1)) / r = (p + k) / r + (if (p + k) % r + 1 = r then 1 else 0) := by
  have h1 := Nat.div_add_mod (p + k) r
  have h2 := Nat.mod_lt (p + k) hr
  split
  · rename_i h
    have : p + (k + 1) = r * ((p + k) / r + 1) := by rw [Nat.mul_add, Nat.mul_one]; omega
    rw [this, Nat.mul_div_cancel_left _ hr]
  · rename_i h
    have : p + (k + 1) = ((p + k) % r + 1) + r * ((p + k) / r) := by omega
    rw [this, Nat.add_mul_div_left _ _ hr, Nat.div_eq_of_lt (by omega)]
    omega

section
variable (b : List UInt8) (xs : List Value)

theorem sp_get {k : Nat} (j : Nat) (hb : b.length = 200) (hk : k = 200 + j) : (b.map vb ++ xs)[k]? = xs[j]? := by
  subst hk
  rw [List.getElem?_append_right (by simp [hb]), List.length_map, hb, Nat.add_sub_cancel_left]

theorem sp_at {k : Nat} (hb : b.length = 200) (hk : k < 200) : (b.map vb ++ xs)[k]? = some (vb (b.getD k 0)) := by
  rw [List.getElem?_append_left (by simp [hb]; exact hk), List.getElem?_map, List.getElem?_eq_getElem (by rw [hb]; exact hk)]
  simp [List.getD_eq_getElem?_getD, List.getElem?_eq_getElem (show k < b.length by rw [hb]; exact hk)]

theorem sp_set {k : Nat} (c : UInt8) (hb : b.length = 200) (hk : k < 200) : (b.map vb ++ xs).set k (vb c) = (b.set k c).map vb ++ xs := by
  rw [List.set_append_left _ _ (by simp [hb]; exact hk), List.map_set]

theorem sp_put {k : Nat} (j : Nat) (u : Value) (hb : b.length = 200) (hk : k = 200 + j) : (b.map vb ++ xs).set k u = b.map vb ++ xs.set j u := by
  subst hk
  rw [List.set_append_right _ _ (by simp [hb]), List.length_map, hb, Nat.add_sub_cancel_left]

theorem sp_front (B : List UInt8) (hb : b.length = 200) (hB : B.length = 200) : (b.map vb ++ xs).take 0 ++ B.map vb ++ (b.map vb ++ xs).drop (0 + (B.map vb).length) = B.map vb ++ xs := by
  rw [List.take_zero, List.nil_append, List.length_map, hB, Nat.zero_add, List.drop_left' (by rw [List.length_map, hb])]

end

theorem Sp.cells {x : Sp} (hb : x.b.length = 200) : x.vs[200]? = some (.int .i64 x.r) ∧ x.vs[201]? = some (.int .u8 (x.f.toNat : Int)) ∧ x.vs[202]? = some (.int .i64 x.p) ∧ x.vs[203]? = some (.bool x.s) :=
  ⟨(sp_get x.b _ 0 hb rfl).trans rfl, (sp_get x.b _ 1 hb rfl).trans rfl, (sp_get x.b _ 2 hb rfl).trans rfl, (sp_get x.b _ 3 hb rfl).trans rfl⟩

theorem Sp.cellsR {x : Sp} (hb : x.b.length = 200) : x.vsR[200]? = some (.int .i64 x.r) ∧ x.vsR[201]? = some (.int .u8 (x.f.toNat : Int)) ∧ x.vsR[202]? = some (.int .i64 x.p) ∧ x.vsR[203]? = some (.bool x.s) ∧ x.vsR[204]? = some (.bool false) :=
  ⟨(sp_get x.b _ 0 hb rfl).trans rfl, (sp_get x.b _ 1 hb rfl).trans rfl, (sp_get x.b _ 2 hb rfl).trans rfl, (sp_get x.b _ 3 hb rfl).trans rfl, (sp_get x.b _ 4 hb rfl).trans rfl⟩

theorem Sp.vs_length {x : Sp} (hb : x.b.length = 200) : x.vs.length = 204 := by unfold Sp.vs; rw [List.length_append, List.length_map, hb]; rfl

theorem Sp.vsR_length {x : Sp} (hb : x.b.length = 200) : x.vsR.length = 205 := by unfold Sp.vsR; rw [List.length_append, List.length_map, hb]; rfl

theorem xor8 (a b : UInt8) : UInt8.ofNat (a.toNat ^^^ b.toNat) = a ^^^ b := by
  apply UInt8.toNat_inj.1; rw [UInt8.toNat_xor, UInt8.toNat_ofNat']; exact Nat.mod_eq_of_lt (Nat.xor_lt_two_pow a.toNat_lt b.toNat_lt)

section
variable {w0 w : World} {F0 : List Nat} {E : Env}

theorem St.storeMid {g : Nat} {T : TypeId} {cs vs : List Value} (H : St w0 F0 w E) (k : Nat) (hk : E k = some (.blk g T cs)) (o : Nat) (hl : o + vs.length ≤ cs.length) : St w0 F0 (w.setCells g o vs) (upd E k (.blk g T (cs.take o ++ vs ++ cs.drop (o + vs.length)))) := by
  obtain ⟨F, ⟨h, e⟩, -, -, hc⟩ := H.change k hk
  subst e
  exact hc _ _ [g] ⟨setCells_heap vs w g o T cs h hl, rfl⟩ (setCells_low vs w g o) (by simp)

end

theorem upd_laid {L : List Own} {k : Nat} {A : Own} (h : k < L.length) : upd (lay L) k A = lay (L.set k A) := by
  funext i
  by_cases hi : i = k
  · subst hi; simp [upd, lay, List.getElem?_set_self h]
  · simp [upd, lay, hi, List.getElem?_set_ne (Ne.symm hi)]

theorem range_front {w : World} {g : Nat} {xs ys : List Value} (h : w.rangeAt g 0 (xs ++ ys)) : w.rangeAt g 0 xs := fun j v hv => by
  exact h j v (by rw [List.getElem?_append_left (List.getElem?_eq_some_iff.1 hv).1]; exact hv)

theorem there_front {w : World} {g n m : Nat} (h : w.there g 0 n) (hm : m ≤ n) : w.there g 0 m := fun j hj => h j (by omega)

end Go.Proofs.Ytgjlclihgpahbaa
