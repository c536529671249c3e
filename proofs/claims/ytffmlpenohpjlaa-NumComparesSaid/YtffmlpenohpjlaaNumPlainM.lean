/- Plain arithmetic of layer num, the reference: two fractions compared by their integer parts, then by the reciprocals of what is left. -/
import Derived.Test.YtffmlpenohpjlaaNumPlainE
set_option linter.unusedVariables false
namespace Go.Proofs.Ytffmlpenohpjlaa.Num
theorem sgn_neg {x : Int} (h : x < 0) : sgnI x = -1 := by unfold sgnI; rw [if_pos h]
theorem sgn_pos {x : Int} (h : 0 < x) : sgnI x = 1 := by unfold sgnI; rw [if_neg (by omega), if_pos h]
theorem sgn_zero : sgnI 0 = 0 := rfl
theorem cf_parts (a : Int) {d : Int} (h : 0 < d) : 0 ≤ a - d * fl a d ∧ a - d * fl a d < d := by
  have := fl_spec_pos a h; omega
theorem cf_lt {an ad bn bd : Int} (ha : 0 < ad) (hb : 0 < bd) (h : fl an ad < fl bn bd) : an * bd < bn * ad := by
  have h1 := (fl_spec_pos an ha).2
  have h2 := (fl_spec_pos bn hb).1
  generalize fl an ad = p at *
  generalize fl bn bd = q at *
  have h3 : an * bd < (ad * p + ad) * bd := Int.mul_lt_mul_of_pos_right h1 hb
  have h4 : bd * q * ad ≤ bn * ad := Int.mul_le_mul_of_nonneg_right h2 (by omega)
  have h5 : ad * p + ad ≤ ad * q := by
    have : ad * (p + 1) ≤ ad * q := Int.mul_le_mul_of_nonneg_left (by omega) (by omega)
    rw [Int.mul_add, Int.mul_one] at this; exact this
  have h6 : (ad * p + ad) * bd ≤ ad * q * bd := Int.mul_le_mul_of_nonneg_right h5 (by omega)
  have e : ad * q * bd = bd * q * ad := by rw [Int.mul_comm ad q, Int.mul_comm bd q, Int.mul_right_comm]
  omega
theorem cf_ne {an ad bn bd : Int} (ha : 0 < ad) (hb : 0 < bd) (h : fl an ad ≠ fl bn bd) : sgnI (fl an ad - fl bn bd) = sgnI (an * bd - bn * ad) := by
  rcases Int.lt_or_gt_of_ne h with h | h
  · have := cf_lt ha hb h
    rw [sgn_neg (by omega), sgn_neg (by omega)]
  · have := cf_lt hb ha h
    rw [sgn_pos (by omega), sgn_pos (by omega)]
theorem cf_next {an ad bn bd p : Int} : bd * (an - ad * p) - ad * (bn - bd * p) = an * bd - bn * ad := by
  rw [Int.mul_sub, Int.mul_sub, Int.mul_comm bd an, Int.mul_comm ad bn, ← Int.mul_assoc, ← Int.mul_assoc, Int.mul_comm bd ad]
  omega
theorem cf_zero {r s ad bd : Int} (ha : 0 < ad) (hb : 0 < bd) (hr : 0 ≤ r) (hs : 0 ≤ s) (h : r = 0 ∨ s = 0) : sgnI (r - s) = sgnI (bd * r - ad * s) := by
  rcases h with rfl | rfl
  · rw [Int.mul_zero]
    rcases Int.lt_or_eq_of_le hs with h | h
    · have := Int.mul_pos ha h
      rw [sgn_neg (by omega), sgn_neg (by omega)]
    · subst h; simp
  · rw [Int.mul_zero]
    rcases Int.lt_or_eq_of_le hr with h | h
    · have := Int.mul_pos hb h
      rw [sgn_pos (by omega), sgn_pos (by omega)]
    · subst h; simp
theorem sgn_anti (x : Int) : sgnI (-x) = -sgnI x := by
  unfold sgnI
  repeat' split
  all_goals omega
theorem cmpF_anti (an ad bn bd : Int) : cmpF bn bd an ad = -cmpF an ad bn bd := by
  unfold cmpF
  by_cases h : vld an ad = true ∧ vld bn bd = true
  · rw [if_pos h, if_pos ⟨h.2, h.1⟩, ← sgn_anti]; congr 1; omega
  · rw [if_neg h, if_neg (fun x => h ⟨x.2, x.1⟩)]; rfl
theorem cmpF_same (an ad : Int) : cmpF an ad an ad = 0 := by
  unfold cmpF; split
  · rw [Int.sub_self]; rfl
  · rfl
theorem cmpF_range (an ad bn bd : Int) : -1 ≤ cmpF an ad bn bd ∧ cmpF an ad bn bd ≤ 1 := by
  unfold cmpF sgnI
  repeat' split
  all_goals omega
end Go.Proofs.Ytffmlpenohpjlaa.Num
