/- The permutation takes unlike states to unlike ones. Plain words and bits. -/
import Derived.Test.YtoodgdcpkkfdgaaKecS
import Derived.Test.YtoodgdcpkkfdgaaBackP
namespace Go.Proofs.Ytoodgdcpkkfdgaa
/- theta: columns -/
/-- f at a place, one s columns ahead, one t columns ahead and r bits below -/
def tri (s t r : Int) (f : Int → Int → Bool) : Int → Int → Bool := fun x i => f x i ^^ (f (x - s) i ^^ f (x - t) (i - r))
theorem tri_sq (s t r : Int) (f : Int → Int → Bool) : tri s t r (tri s t r f) = tri (2 * s) (2 * t) (2 * r) f := by
  funext x i
  simp only [tri]
  rw [show x - t - s = x - s - t by omega, show x - 2 * s = x - s - s by omega, show x - 2 * t = x - t - t by omega, show i - 2 * r = i - r - r by omega]
  generalize f x i = a; generalize f (x - s) i = b; generalize f (x - t) (i - r) = c; generalize f (x - s - s) i = d; generalize f (x - s - t) (i - r) = e; generalize f (x - t - t) (i - r - r) = g
  cases a <;> cases b <;> cases c <;> cases d <;> cases e <;> cases g <;> rfl
theorem tri_zero (s t r : Int) : tri s t r (fun _ _ => false) = fun _ _ => false := by funext x i; simp [tri]
theorem tri_dbl {s t r : Int} {f : Int → Int → Bool} (h : tri s t r f = fun _ _ => false) : tri (2 * s) (2 * t) (2 * r) f = fun _ _ => false := by
  rw [← tri_sq, h, tri_zero]
theorem tri_kernel (f : Int → Int → Bool) (p5 : ∀ x i, f (x + 5) i = f x i) (p64 : ∀ x i, f x (i + 64) = f x i) (h : tri 1 (-1) 1 f = fun _ _ => false) : f = fun _ _ => false := by
  have h6 := tri_dbl (tri_dbl (tri_dbl (tri_dbl (tri_dbl (tri_dbl h)))))
  have m5 : ∀ x i, f (x - 5) i = f x i := fun x i => by rw [← p5 (x - 5) i]; congr 1; omega
  have q : ∀ x i, (f x i ^^ (f (x + 1) i ^^ f (x - 1) i)) = false := fun x i => by
    have h7 := congrFun (congrFun h6 x) i
    simp only [tri] at h7
    have e1 : ∀ (n : Nat) (x i : Int), f (x - 5 * n) i = f x i := by
      intro n
      induction n with
      | zero => intro x i; simp
      | succ n ih => intro x i; rw [show x - 5 * ((n + 1 : Nat) : Int) = (x - 5) - 5 * (n : Int) by omega, ih, m5]
    have e2 : f (x - 2 * (2 * (2 * (2 * (2 * (2 * 1)))))) i = f (x + 1) i := by
      rw [← e1 13 (x + 1) i]; congr 1; omega
    have e3 : f (x - 2 * (2 * (2 * (2 * (2 * (2 * -1)))))) (i - 2 * (2 * (2 * (2 * (2 * (2 * 1)))))) = f (x - 1) i := by
      rw [show x - 2 * (2 * (2 * (2 * (2 * (2 * (-1 : Int)))))) = x + 64 by omega, ← e1 13 (x + 64), ← p64]
      congr 1 <;> omega
    rw [e2, e3] at h7
    exact h7
  funext x i
  have a1 := q x i
  have a2 := q (x + 1) i
  have a3 := q (x - 1) i
  have a4 := q (x + 2) i
  have a5 := q (x - 2) i
  rw [show x + 1 - 1 = x by omega, show x + 1 + 1 = x + 2 by omega] at a2
  rw [show x - 1 - 1 = x - 2 by omega, show x - 1 + 1 = x by omega] at a3
  rw [show x + 2 - 1 = x + 1 by omega, show f (x + 2 + 1) i = f (x - 2) i from by rw [← m5]; congr 1; omega] at a4
  rw [show x - 2 + 1 = x - 1 by omega, show f (x - 2 - 1) i = f (x + 2) i from by rw [← p5]; congr 1; omega] at a5
  revert a1 a2 a3 a4 a5
  generalize f x i = a; generalize f (x + 1) i = b; generalize f (x - 1) i = c; generalize f (x + 2) i = d; generalize f (x - 2) i = e
  cases a <;> cases b <;> cases c <;> cases d <;> cases e <;> simp
end Go.Proofs.Ytoodgdcpkkfdgaa
