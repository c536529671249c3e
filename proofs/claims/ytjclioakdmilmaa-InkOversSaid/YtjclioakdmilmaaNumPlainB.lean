/- Plain arithmetic of layer num, the reference: quotients of absolute values with a sign. -/
import Derived.Test.YtjclioakdmilmaaNumPlain
namespace Go.Proofs.Ytjclioakdmilmaa.Num
/-- the reference's sign: negative quotients -/
def mns (a b : Int) : Bool := (decide (a < 0) && decide (0 < b)) || (decide (0 < a) && decide (b < 0))
def sgE (minus : Bool) (m : Int) : Int := if 9223372036854775808 < m ∨ (m = 9223372036854775808 ∧ minus = false) then 15 else 0
def sgV (minus : Bool) (m : Int) : Int := if sgE minus m = 0 then (if minus = true then -m else m) else 0
def rQ (a b : Int) : Nat := if a.natAbs % b.natAbs > b.natAbs - a.natAbs % b.natAbs ∨ (a.natAbs % b.natAbs = b.natAbs - a.natAbs % b.natAbs ∧ mns a b = false) then a.natAbs / b.natAbs + 1 else a.natAbs / b.natAbs
theorem rnd_of_rQ (a b : Int) (hb : b ≠ 0) : rnd a b = if mns a b = true then -(rQ a b : Int) else rQ a b := by
  have h0 := Nat.div_add_mod a.natAbs b.natAbs
  have h1 : a.natAbs % b.natAbs < b.natAbs := Nat.mod_lt _ (by omega)
  have hm : mns a b = true ↔ ((a < 0 ∧ 0 < b) ∨ (0 < a ∧ b < 0)) := by unfold mns; simp
  unfold rnd rQ
  generalize a.natAbs / b.natAbs = q at *
  generalize a.natAbs % b.natAbs = r at *
  generalize mns a b = m at *
  rcases Int.lt_or_gt_of_ne hb with hn | hp
  · have e0 : (b.natAbs : Int) * (q : Int) = -(b * (q : Int)) := by
      rw [show (b.natAbs : Int) = -b by omega, Int.neg_mul]
    have h0' : (b.natAbs : Int) * (q : Int) + r = a.natAbs := by exact_mod_cast h0
    rw [e0] at h0'
    have e1 : 2 * b * ((q : Int) + 1) = 2 * (b * (q : Int)) + 2 * b := by rw [Int.mul_add, Int.mul_assoc]; omega
    have e2 : 2 * b * (q : Int) = 2 * (b * (q : Int)) := by rw [Int.mul_assoc]
    have e3 : 2 * b * (-((q : Int) + 1)) = -(2 * (b * (q : Int)) + 2 * b) := by rw [Int.mul_neg, e1]
    have e4 : 2 * b * (-(q : Int)) = -(2 * (b * (q : Int))) := by rw [Int.mul_neg, e2]
    generalize b * (q : Int) = p at *
    by_cases hm' : m = true
    · simp only [hm', if_true, Bool.true_eq_false, and_false, or_false]
      have hm2 := hm.1 hm'
      split
      · exact fl_neg (by omega) (by push_cast; omega) (by push_cast; omega)
      · exact fl_neg (by omega) (by omega) (by omega)
    · have hmf : m = false := by simpa using hm'
      have hm2 := fun h => hm' (hm.2 h)
      simp only [hmf, and_true, if_false, Bool.false_eq_true]
      have ha : a ≤ 0 := by
        apply Classical.byContradiction; intro hx; exact hm2 (Or.inr ⟨by omega, hn⟩)
      split
      · exact fl_neg (by omega) (by push_cast; omega) (by push_cast; omega)
      · exact fl_neg (by omega) (by omega) (by omega)
  · have e0 : (b.natAbs : Int) * (q : Int) = b * (q : Int) := by
      rw [show (b.natAbs : Int) = b by omega]
    have h0' : (b.natAbs : Int) * (q : Int) + r = a.natAbs := by exact_mod_cast h0
    rw [e0] at h0'
    have e1 : 2 * b * ((q : Int) + 1) = 2 * (b * (q : Int)) + 2 * b := by rw [Int.mul_add, Int.mul_assoc]; omega
    have e2 : 2 * b * (q : Int) = 2 * (b * (q : Int)) := by rw [Int.mul_assoc]
    have e3 : 2 * b * (-((q : Int) + 1)) = -(2 * (b * (q : Int)) + 2 * b) := by rw [Int.mul_neg, e1]
    have e4 : 2 * b * (-(q : Int)) = -(2 * (b * (q : Int))) := by rw [Int.mul_neg, e2]
    generalize b * (q : Int) = p at *
    by_cases hm' : m = true
    · simp only [hm', if_true, Bool.true_eq_false, and_false, or_false]
      have hm2 := hm.1 hm'
      split
      · exact fl_pos (by omega) (by push_cast; omega) (by push_cast; omega)
      · exact fl_pos (by omega) (by omega) (by omega)
    · have hmf : m = false := by simpa using hm'
      have hm2 := fun h => hm' (hm.2 h)
      simp only [hmf, and_true, if_false, Bool.false_eq_true]
      have ha : 0 ≤ a := by
        apply Classical.byContradiction; intro hx; exact hm2 (Or.inl ⟨by omega, hp⟩)
      split
      · exact fl_pos (by omega) (by push_cast; omega) (by push_cast; omega)
      · exact fl_pos (by omega) (by omega) (by omega)
theorem sg_of_range {m : Bool} {n : Nat} (h : I64 (if m = true then -(n : Int) else n)) : sgE m n = 0 ∧ sgV m n = if m = true then -(n : Int) else n := by
  have h0 : sgE m n = 0 := by
    unfold sgE
    rw [if_neg]
    unfold I64 at h
    cases m <;> simp at h ⊢ <;> omega
  exact ⟨h0, by unfold sgV; rw [if_pos h0]⟩
theorem rQ_sg (a b : Int) (ha : I64 a) (hb : b ≠ 0) (ho : ¬ (a = -9223372036854775808 ∧ b = -1)) : sgE (mns a b) (rQ a b) = 0 ∧ sgV (mns a b) (rQ a b) = rnd a b := by
  have h := rnd_range a b ha hb ho
  rw [rnd_of_rQ a b hb] at h ⊢
  exact sg_of_range h
theorem rQ_over : sgE (mns (-9223372036854775808) (-1)) (rQ (-9223372036854775808) (-1)) = 15 ∧ sgV (mns (-9223372036854775808) (-1)) (rQ (-9223372036854775808) (-1)) = 0 := by
  decide
end Go.Proofs.Ytjclioakdmilmaa.Num
