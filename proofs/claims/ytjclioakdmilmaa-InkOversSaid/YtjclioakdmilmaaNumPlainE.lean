/- Plain words for comparing fractions. -/
import Derived.Test.YtjclioakdmilmaaNumPlainC
set_option linter.unusedVariables false
namespace Go.Proofs.Ytjclioakdmilmaa.Num
/-- a fraction is valid -/
def vld (n d : Int) : Bool := decide (0 < d) && ((gd n d : Int) == 1)
def sgnI (x : Int) : Int := if x < 0 then -1 else if 0 < x then 1 else 0
/-- what Cmp returns -/
def cmpF (an ad bn bd : Int) : Int := if vld an ad = true ∧ vld bn bd = true then sgnI (an * bd - bn * ad) else 0
theorem vld_pos {n d : Int} (h : vld n d = true) : 0 < d := by unfold vld at h; simp at h; exact h.1
theorem cmp_sign {an ad bn bd : Int} (ha : 0 < ad) (hb : 0 < bd) (h : ¬ (an < 0 ↔ bn < 0)) : sgnI (an * bd - bn * ad) = if an < 0 then -1 else 1 := by
  unfold sgnI
  rcases Int.lt_or_le an 0 with h1 | h1
  · have h2 : 0 ≤ bn := by omega
    have p1 : an * bd < 0 := Int.mul_neg_of_neg_of_pos h1 hb
    have p2 : 0 ≤ bn * ad := Int.mul_nonneg h2 (by omega)
    rw [if_pos (by omega), if_pos h1]
  · have h2 : bn < 0 := by omega
    have p1 : 0 ≤ an * bd := Int.mul_nonneg h1 (by omega)
    have p2 : bn * ad < 0 := Int.mul_neg_of_neg_of_pos h2 ha
    rw [if_neg (by omega), if_pos (by omega), if_neg (by omega)]
/-- with the same sign, the products of the absolute values decide -/
theorem cmp_same {an ad bn bd : Int} (ha : 0 < ad) (hb : 0 < bd) (h : an < 0 ↔ bn < 0) :
    sgnI (an * bd - bn * ad) = if an < 0 then -sgnI (((an.natAbs * bd.natAbs : Nat) : Int) - ((bn.natAbs * ad.natAbs : Nat) : Int)) else sgnI (((an.natAbs * bd.natAbs : Nat) : Int) - ((bn.natAbs * ad.natAbs : Nat) : Int)) := by
  have e1 : (bd.natAbs : Int) = bd := by omega
  have e2 : (ad.natAbs : Int) = ad := by omega
  rw [Int.natCast_mul, Int.natCast_mul, e1, e2]
  rcases Int.lt_or_le an 0 with h1 | h1
  · have h2 : bn < 0 := h.1 h1
    rw [if_pos h1, show (an.natAbs : Int) = -an by omega, show (bn.natAbs : Int) = -bn by omega, Int.neg_mul, Int.neg_mul]
    unfold sgnI
    generalize an * bd = p at *
    generalize bn * ad = q at *
    repeat' split
    all_goals omega
  · have h2 : 0 ≤ bn := by omega
    rw [if_neg (by omega), show (an.natAbs : Int) = an by omega, show (bn.natAbs : Int) = bn by omega]
theorem sgn_lt {a b : Nat} (h : a < b) : sgnI ((a : Int) - b) = -1 := by unfold sgnI; rw [if_pos (by omega)]
theorem sgn_gt {a b : Nat} (h : b < a) : sgnI ((a : Int) - b) = 1 := by unfold sgnI; rw [if_neg (by omega), if_pos (by omega)]
theorem sgn_eq {a b : Nat} (h : a = b) : sgnI ((a : Int) - b) = 0 := by unfold sgnI; rw [if_neg (by omega), if_neg (by omega)]
end Go.Proofs.Ytjclioakdmilmaa.Num
