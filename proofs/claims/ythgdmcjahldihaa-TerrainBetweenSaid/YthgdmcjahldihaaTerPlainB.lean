/- Plain words for the least and the greatest height of a grid. -/
import Derived.Test.YthgdmcjahldihaaTerPlain
namespace Go.Proofs.Ythgdmcjahldihaa.Ter
/-- the least of z 0, .., z k -/
def mnF (z : Nat → Int) : Nat → Int
  | 0 => z 0
  | k + 1 => min (mnF z k) (z (k + 1))
def mxF (z : Nat → Int) : Nat → Int
  | 0 => z 0
  | k + 1 => max (mxF z k) (z (k + 1))
/-- the least of the first n numbers, for n > 0 -/
def mnA (z : Nat → Int) (n : Nat) : Int := mnF z (n - 1)
def mxA (z : Nat → Int) (n : Nat) : Int := mxF z (n - 1)
theorem mnA_step (z : Nat → Int) (k : Nat) : mnA z (k + 1) = min (mnA z k) (z k) := by
  unfold mnA
  cases k with
  | zero => show z 0 = min (z 0) (z 0); omega
  | succ k => rfl
theorem mxA_step (z : Nat → Int) (k : Nat) : mxA z (k + 1) = max (mxA z k) (z k) := by
  unfold mxA
  cases k with
  | zero => show z 0 = max (z 0) (z 0); omega
  | succ k => rfl
theorem mn_le (z : Nat → Int) (n j : Nat) (h : j < n) : mnA z n ≤ z j ∧ z j ≤ mxA z n := by
  induction n with
  | zero => omega
  | succ n ih =>
    rw [mnA_step, mxA_step]
    by_cases e : j = n
    · subst e; omega
    · have := ih (by omega); omega
end Go.Proofs.Ythgdmcjahldihaa.Ter
