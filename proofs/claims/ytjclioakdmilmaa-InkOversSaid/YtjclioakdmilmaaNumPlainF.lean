/- Plain arithmetic of layer num: the quotient rounded up. -/
import Derived.Test.YtjclioakdmilmaaNumPlainB
set_option linter.unusedVariables false
namespace Go.Proofs.Ytjclioakdmilmaa.Num
def cl (a b : Int) : Int := if a - b * fl a b = 0 then fl a b else fl a b + 1
theorem cl_of_t (a b : Int) (hb : b ≠ 0) : cl a b = if a.tmod b ≠ 0 ∧ ((a.tmod b < 0) = (b < 0)) then a.tdiv b + 1 else a.tdiv b := by
  obtain ⟨h, h1, h2, h3, h4⟩ := tq a b hb
  unfold cl
  rw [fl_of_t a b hb]
  generalize a.tdiv b = t at *
  generalize a.tmod b = r at *
  by_cases hr : r = 0
  · have e1 : (if r ≠ 0 ∧ (r < 0) ≠ (b < 0) then t - 1 else t) = t := if_neg (fun hx => hx.1 hr)
    have e2 : (if r ≠ 0 ∧ (r < 0) = (b < 0) then t + 1 else t) = t := if_neg (fun hx => hx.1 hr)
    rw [e1, e2, if_pos (by omega)]
  · by_cases hs : (r < 0) = (b < 0)
    · have e1 : (if r ≠ 0 ∧ (r < 0) ≠ (b < 0) then t - 1 else t) = t := if_neg (fun hx => hx.2 hs)
      have e2 : (if r ≠ 0 ∧ (r < 0) = (b < 0) then t + 1 else t) = t + 1 := if_pos ⟨hr, hs⟩
      rw [e1, e2, if_neg (by omega)]
    · have e1 : (if r ≠ 0 ∧ (r < 0) ≠ (b < 0) then t - 1 else t) = t - 1 := if_pos ⟨hr, hs⟩
      have e2 : (if r ≠ 0 ∧ (r < 0) = (b < 0) then t + 1 else t) = t := if_neg (fun hx => hs hx.2)
      have e : b * (t - 1) = b * t - b := by rw [Int.mul_sub, Int.mul_one]
      rw [e1, e2, e, if_neg (by intro hx; omega)]
      omega
theorem cl_range (a b : Int) (ha : I64 a) (hb : b ≠ 0) (ho : ¬ (a = -9223372036854775808 ∧ b = -1)) : I64 (cl a b) := by
  have hr := tdiv_range a b ha hb ho
  rw [cl_of_t a b hb]
  split
  · rename_i hc
    have := tq a b hb
    unfold I64 at *
    have hne : a.tdiv b ≠ 9223372036854775807 := by
      intro e
      have h1 := Int.natAbs_tdiv a b
      have h2 : a.natAbs.div b.natAbs = a.natAbs / b.natAbs := rfl
      rw [e, h2] at h1
      have h4 : (a.natAbs / b.natAbs) * b.natAbs ≤ a.natAbs := Nat.div_mul_le_self _ _
      rw [← h1] at h4
      have h5 : (9223372036854775807 : Int).natAbs = 9223372036854775807 := rfl
      rw [h5] at h4
      have h6 : b.natAbs = 1 := by omega
      have h7 := this.2.1
      have h8 := this.2.2.1
      rw [h6] at h7 h8
      omega
    omega
  · exact hr
def clq (a b : Int) : Int := if chk a b = 0 then cl a b else 0
def gcV (a b : Int) : Int := if Nat.gcd a.natAbs b.natAbs ≤ 9223372036854775807 then (Nat.gcd a.natAbs b.natAbs : Int) else 0
end Go.Proofs.Ytjclioakdmilmaa.Num
