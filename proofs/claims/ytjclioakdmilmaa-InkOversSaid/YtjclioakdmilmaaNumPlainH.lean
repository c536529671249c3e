/- Plain arithmetic of layer num, the reference: Floor and Ceil out of the quotients of absolute values; what NumDivides and NumGcd ask. -/
import Derived.Test.YtjclioakdmilmaaNumPlainF
set_option linter.unusedVariables false
namespace Go.Proofs.Ytjclioakdmilmaa.Num
def fQ (a b : Int) : Nat := if mns a b = true ∧ 0 < a.natAbs % b.natAbs then a.natAbs / b.natAbs + 1 else a.natAbs / b.natAbs
def cQ (a b : Int) : Nat := if mns a b = false ∧ 0 < a.natAbs % b.natAbs then a.natAbs / b.natAbs + 1 else a.natAbs / b.natAbs
theorem cl_pos {a b q : Int} (hb : 0 < b) (h1 : a ≤ b * q) (h2 : b * q - b < a) : cl a b = q := by
  unfold cl
  by_cases h : a = b * q
  · have e : fl a b = q := fl_pos hb (by omega) (by omega)
    rw [e, if_pos (by omega)]
  · have e1 : b * (q - 1) = b * q - b := by rw [Int.mul_sub, Int.mul_one]
    have e : fl a b = q - 1 := fl_pos hb (by omega) (by omega)
    rw [e, e1, if_neg (by omega)]; omega
theorem cl_neg {a b q : Int} (hb : b < 0) (h1 : b * q ≤ a) (h2 : a < b * q - b) : cl a b = q := by
  unfold cl
  by_cases h : a = b * q
  · have e : fl a b = q := fl_neg hb (by omega) (by omega)
    rw [e, if_pos (by omega)]
  · have e1 : b * (q - 1) = b * q - b := by rw [Int.mul_sub, Int.mul_one]
    have e : fl a b = q - 1 := fl_neg hb (by omega) (by omega)
    rw [e, e1, if_neg (by omega)]; omega
theorem abs_parts (a b : Int) (hb : b ≠ 0) : ∃ q r : Int, (a.natAbs / b.natAbs : Nat) = q ∧ (a.natAbs % b.natAbs : Nat) = r ∧ 0 ≤ r ∧ r < b.natAbs ∧ (0 < b → b * q + r = a.natAbs) ∧ (b < 0 → -(b * q) + r = a.natAbs) := by
  have h0 := Nat.div_add_mod a.natAbs b.natAbs
  have h1 : a.natAbs % b.natAbs < b.natAbs := Nat.mod_lt _ (by omega)
  have h0' : (b.natAbs : Int) * ((a.natAbs / b.natAbs : Nat) : Int) + ((a.natAbs % b.natAbs : Nat) : Int) = a.natAbs := by exact_mod_cast h0
  refine ⟨_, _, rfl, rfl, by omega, by omega, fun h => ?_, fun h => ?_⟩
  · rw [show (b.natAbs : Int) = b by omega] at h0'; exact h0'
  · rw [show (b.natAbs : Int) = -b by omega, Int.neg_mul] at h0'; exact h0'
theorem fl_of_fQ (a b : Int) (hb : b ≠ 0) : fl a b = if mns a b = true then -(fQ a b : Int) else fQ a b := by
  obtain ⟨q, r, hq, hr, r0, r1, hp, hn⟩ := abs_parts a b hb
  have hm : mns a b = true ↔ ((a < 0 ∧ 0 < b) ∨ (0 < a ∧ b < 0)) := by unfold mns; simp
  have hmf : mns a b = false ↔ ¬ ((a < 0 ∧ 0 < b) ∨ (0 < a ∧ b < 0)) := by rw [← hm]; simp
  have hf : (fQ a b : Int) = if mns a b = true ∧ 0 < r then q + 1 else q := by
    unfold fQ
    have : (0 < a.natAbs % b.natAbs) ↔ 0 < r := by omega
    by_cases hc : mns a b = true ∧ 0 < r
    · rw [if_pos (by rw [this]; exact hc), if_pos hc, ← hq]; push_cast; rfl
    · rw [if_neg (by rw [this]; exact hc), if_neg hc, ← hq]
  rw [hf]
  generalize mns a b = m at *
  clear hf hq hr
  have e1 : b * (q + 1) = b * q + b := by rw [Int.mul_add, Int.mul_one]
  have e2 : b * (-(q + 1)) = -(b * q) - b := by rw [Int.mul_neg, e1]; omega
  have e3 : b * (-q) = -(b * q) := Int.mul_neg _ _
  cases m
  · have hx := hmf.1 rfl
    simp only [Bool.false_eq_true, false_and, if_false]
    rcases Int.lt_or_gt_of_ne hb with h | h
    · have := hn h
      exact fl_neg h (by omega) (by omega)
    · have := hp h
      exact fl_pos h (by omega) (by omega)
  · have hx := hm.1 rfl
    simp only [true_and, if_true]
    rcases Int.lt_or_gt_of_ne hb with h | h
    · have := hn h
      split
      · exact fl_neg h (by omega) (by omega)
      · exact fl_neg h (by omega) (by omega)
    · have := hp h
      split
      · exact fl_pos h (by omega) (by omega)
      · exact fl_pos h (by omega) (by omega)
theorem cl_of_cQ (a b : Int) (hb : b ≠ 0) : cl a b = if mns a b = true then -(cQ a b : Int) else cQ a b := by
  obtain ⟨q, r, hq, hr, r0, r1, hp, hn⟩ := abs_parts a b hb
  have hm : mns a b = true ↔ ((a < 0 ∧ 0 < b) ∨ (0 < a ∧ b < 0)) := by unfold mns; simp
  have hmf : mns a b = false ↔ ¬ ((a < 0 ∧ 0 < b) ∨ (0 < a ∧ b < 0)) := by rw [← hm]; simp
  have hf : (cQ a b : Int) = if mns a b = false ∧ 0 < r then q + 1 else q := by
    unfold cQ
    have : (0 < a.natAbs % b.natAbs) ↔ 0 < r := by omega
    by_cases hc : mns a b = false ∧ 0 < r
    · rw [if_pos (by rw [this]; exact hc), if_pos hc, ← hq]; push_cast; rfl
    · rw [if_neg (by rw [this]; exact hc), if_neg hc, ← hq]
  rw [hf]
  generalize mns a b = m at *
  clear hf hq hr
  have e1 : b * (q + 1) = b * q + b := by rw [Int.mul_add, Int.mul_one]
  have e3 : b * (-q) = -(b * q) := Int.mul_neg _ _
  cases m
  · have hx := hmf.1 rfl
    simp only [Bool.false_eq_true, true_and, if_false]
    rcases Int.lt_or_gt_of_ne hb with h | h
    · have := hn h
      split
      · exact cl_neg h (by omega) (by omega)
      · exact cl_neg h (by omega) (by omega)
    · have := hp h
      split
      · exact cl_pos h (by omega) (by omega)
      · exact cl_pos h (by omega) (by omega)
  · have hx := hm.1 rfl
    simp only [Bool.true_eq_false, false_and, if_true, if_false]
    rcases Int.lt_or_gt_of_ne hb with h | h
    · have := hn h
      exact cl_neg h (by omega) (by omega)
    · have := hp h
      exact cl_pos h (by omega) (by omega)
theorem fQ_sg (a b : Int) (ha : I64 a) (hb : b ≠ 0) (ho : ¬ (a = -9223372036854775808 ∧ b = -1)) : sgE (mns a b) (fQ a b) = 0 ∧ sgV (mns a b) (fQ a b) = fl a b := by
  have h := fl_range a b ha hb ho
  rw [fl_of_fQ a b hb] at h ⊢
  exact sg_of_range h
theorem cQ_sg (a b : Int) (ha : I64 a) (hb : b ≠ 0) (ho : ¬ (a = -9223372036854775808 ∧ b = -1)) : sgE (mns a b) (cQ a b) = 0 ∧ sgV (mns a b) (cQ a b) = cl a b := by
  have h := cl_range a b ha hb ho
  rw [cl_of_cQ a b hb] at h ⊢
  exact sg_of_range h
theorem fQ_over : sgE (mns (-9223372036854775808) (-1)) (fQ (-9223372036854775808) (-1)) = 15 ∧ sgV (mns (-9223372036854775808) (-1)) (fQ (-9223372036854775808) (-1)) = 0 := by
  decide
theorem cQ_over : sgE (mns (-9223372036854775808) (-1)) (cQ (-9223372036854775808) (-1)) = 15 ∧ sgV (mns (-9223372036854775808) (-1)) (cQ (-9223372036854775808) (-1)) = 0 := by
  decide
/-- what NumDivides asks of the three quotients -/
theorem divides_law (a b : Int) (ha : I64 a) (hb : b ≠ 0) (ho : ¬ (a = -9223372036854775808 ∧ b = -1)) :
    ∃ r : Int, a - b * fl a b = r ∧ (0 < b → 0 ≤ r ∧ r < b) ∧ (b < 0 → r ≤ 0 ∧ b < r) ∧ (r = 0 → cl a b = fl a b ∧ rnd a b = fl a b) ∧ (r ≠ 0 → cl a b = fl a b + 1 ∧ fl a b + 1 ≤ 9223372036854775807 ∧ (rnd a b = fl a b ∨ rnd a b = cl a b)) := by
  refine ⟨_, rfl, fun h => ?_, fun h => ?_, fun h => ?_, fun h => ?_⟩
  · have := fl_spec_pos a h; omega
  · have := fl_spec_neg a h; omega
  · have e : cl a b = fl a b := by unfold cl; rw [if_pos h]
    refine ⟨e, ?_⟩
    rw [rnd_of_fl a b hb, h]
    rw [if_neg (by simp; omega)]
  · have e : cl a b = fl a b + 1 := by unfold cl; rw [if_neg h]
    have hr := cl_range a b ha hb ho
    unfold I64 at hr
    refine ⟨e, by omega, ?_⟩
    rw [rnd_of_fl a b hb]
    split
    · right; omega
    · left; rfl
/-- what NumGcd asks -/
theorem gcV_comm (a b : Int) : gcV a b = gcV b a := by unfold gcV; rw [Nat.gcd_comm]
theorem gcV_nonneg (a b : Int) : 0 ≤ gcV a b := by unfold gcV; split <;> omega
theorem gcV_dvd (a b : Int) (h : gcV a b ≠ 0) : a.tmod (gcV a b) = 0 ∧ b.tmod (gcV a b) = 0 := by
  unfold gcV at h ⊢
  split at h
  · rename_i hc
    rw [if_pos hc]
    constructor
    · exact Int.tmod_eq_zero_of_dvd (Int.ofNat_dvd_left.2 (Nat.gcd_dvd_left _ _))
    · exact Int.tmod_eq_zero_of_dvd (Int.ofNat_dvd_left.2 (Nat.gcd_dvd_right _ _))
  · exact absurd rfl h
end Go.Proofs.Ytjclioakdmilmaa.Num
