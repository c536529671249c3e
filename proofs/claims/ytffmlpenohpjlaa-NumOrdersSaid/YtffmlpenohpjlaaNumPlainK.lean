/- Plain arithmetic of layer num: the order of reduced fractions. -/
import Derived.Test.YtffmlpenohpjlaaNumPlainJ
set_option linter.unusedVariables false
namespace Go.Proofs.Ytffmlpenohpjlaa.Num
theorem mk16 {a b : Int} (a1 : -32768 ≤ a) (a2 : a ≤ 32767) (b1 : -32768 ≤ b) (b2 : b ≤ 32767) (hb : b ≠ 0) :
    mkE a b = 0 ∧ vld (mkN a b) (mkD a b) = true ∧ -32768 ≤ mkN a b ∧ mkN a b ≤ 32768 ∧ 1 ≤ mkD a b ∧ mkD a b ≤ 32768 := by
  have hu := upq_le a b
  have hl := loq_le a b
  have hp := loq_pos (a := a) hb
  have hok : mkOk a b = true := by
    unfold mkOk sOk
    simp only [Bool.and_eq_true]
    constructor
    · split <;> simp <;> omega
    · simp; omega
  have hE : mkE a b = 0 := by unfold mkE; rw [if_neg hb, if_pos hok]
  obtain ⟨-, e0, e2, e1⟩ := mk_parts hE
  refine ⟨hE, mk_vld hE, ?_, ?_, ?_, ?_⟩ <;> omega
theorem vld_cop {n d : Int} (h : vld n d = true) : 0 < d ∧ Nat.Coprime n.natAbs d.natAbs := by
  refine ⟨vld_pos h, ?_⟩
  unfold vld gd at h
  rw [Bool.and_eq_true] at h
  have := h.2
  simp at this
  exact_mod_cast this
theorem frac_eq {n d n' d' : Int} (h : vld n d = true) (h' : vld n' d' = true) (e : n * d' = n' * d) : n = n' ∧ d = d' := by
  obtain ⟨p, c⟩ := vld_cop h
  obtain ⟨p', c'⟩ := vld_cop h'
  have e1 : n.natAbs * d'.natAbs = n'.natAbs * d.natAbs := by rw [← Int.natAbs_mul, ← Int.natAbs_mul, e]
  have d1 : d'.natAbs ∣ d.natAbs := by
    have : d'.natAbs ∣ n'.natAbs * d.natAbs := ⟨n.natAbs, by rw [← e1, Nat.mul_comm]⟩
    exact Nat.Coprime.dvd_of_dvd_mul_left c'.symm this
  have d2 : d.natAbs ∣ d'.natAbs := by
    have : d.natAbs ∣ n.natAbs * d'.natAbs := ⟨n'.natAbs, by rw [e1, Nat.mul_comm]⟩
    exact Nat.Coprime.dvd_of_dvd_mul_left c.symm this
  have hd := Nat.dvd_antisymm d1 d2
  have hdd : d = d' := by omega
  refine ⟨?_, hdd⟩
  rw [hdd] at e
  exact Int.eq_of_mul_eq_mul_right (by omega) e
theorem cmp_le_trans {xn xd yn yd zn zd : Int} (h1 : 0 < xd) (h2 : 0 < yd) (h3 : 0 < zd) (a : xn * yd ≤ yn * xd) (b : yn * zd ≤ zn * yd) : xn * zd ≤ zn * xd := by
  have a' := Int.mul_le_mul_of_nonneg_right a (Int.le_of_lt h3)
  have b' := Int.mul_le_mul_of_nonneg_right b (Int.le_of_lt h1)
  have e1 : yn * xd * zd = yn * zd * xd := Int.mul_right_comm _ _ _
  have e2 : xn * yd * zd = xn * zd * yd := Int.mul_right_comm _ _ _
  have e3 : zn * yd * xd = zn * xd * yd := Int.mul_right_comm _ _ _
  have c : xn * zd * yd ≤ zn * xd * yd := by rw [← e2, ← e3]; omega
  exact Int.le_of_mul_le_mul_right c h2
theorem cmpF_eq {an ad bn bd : Int} (h1 : vld an ad = true) (h2 : vld bn bd = true) : cmpF an ad bn bd = sgnI (an * bd - bn * ad) := by unfold cmpF; rw [if_pos ⟨h1, h2⟩]
theorem mul16 {a b : Int} (a1 : -32768 ≤ a) (a2 : a ≤ 32768) (b1 : 1 ≤ b) (b2 : b ≤ 32768) : -1073741824 ≤ a * b ∧ a * b ≤ 1073741824 := by
  rcases Int.lt_or_le a 0 with h | h
  · have e1 : (-a) * b ≤ 32768 * 32768 := Int.mul_le_mul (by omega) b2 (by omega) (by omega)
    have e2 : a * b < 0 := Int.mul_neg_of_neg_of_pos h (by omega)
    rw [Int.neg_mul] at e1
    omega
  · have e1 : a * b ≤ 32768 * 32768 := Int.mul_le_mul a2 b2 (by omega) (by omega)
    have e2 : 0 ≤ a * b := Int.mul_nonneg h (by omega)
    omega
/-- what NumOrders asks of three fractions -/
theorem orders_law {xn xd yn yd zn zd : Int} (hx : vld xn xd = true) (hy : vld yn yd = true) (hz : vld zn zd = true) :
    (xn * yd < yn * xd ∧ cmpF xn xd yn yd = -1 ∧ ¬ (xn = yn ∧ xd = yd) ∧ (0 < cmpF yn yd zn zd ∨ (cmpF yn yd zn zd ≤ 0 ∧ cmpF xn xd zn zd ≤ 0))) ∨
    (xn = yn ∧ xd = yd ∧ cmpF xn xd yn yd = 0 ∧ (0 < cmpF yn yd zn zd ∨ (cmpF yn yd zn zd ≤ 0 ∧ cmpF xn xd zn zd ≤ 0))) ∨
    (yn * xd < xn * yd ∧ cmpF xn xd yn yd = 1 ∧ ¬ (xn = yn ∧ xd = yd)) := by
  have px := vld_pos hx
  have py := vld_pos hy
  have pz := vld_pos hz
  have tr : xn * yd ≤ yn * xd → (0 < cmpF yn yd zn zd ∨ (cmpF yn yd zn zd ≤ 0 ∧ cmpF xn xd zn zd ≤ 0)) := fun h => by
    rw [cmpF_eq hy hz, cmpF_eq hx hz]
    unfold sgnI
    rcases Int.lt_or_le (zn * yd) (yn * zd) with h1 | h1
    · left; rw [if_neg (by omega), if_pos (by omega)]; omega
    · right
      have := cmp_le_trans px py pz h h1
      constructor
      · split
        · omega
        · rw [if_neg (by omega)]; omega
      · split
        · omega
        · rw [if_neg (by omega)]; omega
  rcases Int.lt_trichotomy (xn * yd) (yn * xd) with h | h | h
  · left
    refine ⟨h, ?_, ?_, tr (by omega)⟩
    · rw [cmpF_eq hx hy]; unfold sgnI; rw [if_pos (by omega)]
    · rintro ⟨rfl, rfl⟩; omega
  · right; left
    obtain ⟨e1, e2⟩ := frac_eq hx hy h
    refine ⟨e1, e2, ?_, tr (by omega)⟩
    rw [cmpF_eq hx hy]; unfold sgnI; rw [if_neg (by omega), if_neg (by omega)]
  · right; right
    refine ⟨h, ?_, ?_⟩
    · rw [cmpF_eq hx hy]; unfold sgnI; rw [if_neg (by omega), if_pos (by omega)]
    · rintro ⟨rfl, rfl⟩; omega
end Go.Proofs.Ytffmlpenohpjlaa.Num
