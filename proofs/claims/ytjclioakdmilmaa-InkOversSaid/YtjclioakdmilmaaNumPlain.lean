/- Plain arithmetic of layer num: the floor, the rounded quotient, their ranges. No program in sight. -/
namespace Go.Proofs.Ytjclioakdmilmaa.Num
def fl (a b : Int) : Int := if 0 < b then a / b else (-a) / (-b)
def chk (a b : Int) : Int := if b = 0 then 21 else if a = -9223372036854775808 ∧ b = -1 then 15 else 0
def I64 (n : Int) : Prop := -9223372036854775808 ≤ n ∧ n ≤ 9223372036854775807
theorem fl_pos {a b q : Int} (hb : 0 < b) (h1 : b * q ≤ a) (h2 : a < b * q + b) : fl a b = q := by
  unfold fl; rw [if_pos hb]
  have h := Int.mul_ediv_add_emod a b
  have h3 := Int.emod_nonneg a (Int.ne_of_gt hb)
  have h4 := Int.emod_lt_of_pos a hb
  have h5 : b * (a / b - q) < b * 1 := by rw [Int.mul_sub]; omega
  have h6 : b * (-1) < b * (a / b - q) := by rw [Int.mul_sub]; omega
  have h7 := Int.lt_of_mul_lt_mul_left h5 (Int.le_of_lt hb)
  have h8 := Int.lt_of_mul_lt_mul_left h6 (Int.le_of_lt hb)
  omega
theorem fl_neg {a b q : Int} (hb : b < 0) (h1 : a ≤ b * q) (h2 : b * q + b < a) : fl a b = q := by
  have := fl_pos (a := -a) (b := -b) (q := q) (by omega) (by rw [Int.neg_mul]; omega) (by rw [Int.neg_mul]; omega)
  unfold fl at this ⊢
  rw [if_pos (by omega)] at this
  rw [if_neg (by omega)]; exact this
/-- the two bounds of the floor -/
theorem fl_spec_pos (a : Int) {b : Int} (hb : 0 < b) : b * fl a b ≤ a ∧ a < b * fl a b + b := by
  unfold fl; rw [if_pos hb]
  have h := Int.mul_ediv_add_emod a b
  have h3 := Int.emod_nonneg a (Int.ne_of_gt hb)
  have h4 := Int.emod_lt_of_pos a hb
  omega
theorem fl_spec_neg (a : Int) {b : Int} (hb : b < 0) : a ≤ b * fl a b ∧ b * fl a b + b < a := by
  have := fl_spec_pos (-a) (b := -b) (by omega)
  unfold fl at this ⊢
  rw [if_pos (by omega)] at this
  rw [if_neg (by omega)]
  rw [Int.neg_mul] at this
  omega
theorem tq (a b : Int) (hb : b ≠ 0) : b * a.tdiv b + a.tmod b = a ∧ -b.natAbs < a.tmod b ∧ a.tmod b < b.natAbs ∧ (0 ≤ a → 0 ≤ a.tmod b) ∧ (a ≤ 0 → a.tmod b ≤ 0) := by
  have h1 := Int.natAbs_tmod a b
  have h2 : a.natAbs % b.natAbs < b.natAbs := Nat.mod_lt _ (by omega)
  refine ⟨Int.mul_tdiv_add_tmod a b, by omega, by omega, fun h => Int.tmod_nonneg b h, fun h => ?_⟩
  have := Int.tmod_nonneg (a := -a) b (by omega)
  rw [Int.neg_tmod] at this
  omega
theorem tdiv_range (a b : Int) (ha : I64 a) (hb : b ≠ 0) (ho : ¬ (a = -9223372036854775808 ∧ b = -1)) : I64 (a.tdiv b) := by
  unfold I64 at *
  have h1 := Int.natAbs_tdiv a b
  have h2 : a.natAbs.div b.natAbs ≤ a.natAbs := Nat.div_le_self _ _
  by_cases hm : a = -9223372036854775808
  · subst hm
    have hb1 : b ≠ -1 := fun e => ho ⟨rfl, e⟩
    by_cases hb2 : b = 1
    · subst hb2; simp
    · have : b.natAbs ≥ 2 := by omega
      have h3 : (-9223372036854775808 : Int).natAbs.div b.natAbs ≤ (-9223372036854775808 : Int).natAbs / 2 := Nat.div_le_div_left this (by omega)
      have h4 : (-9223372036854775808 : Int).natAbs / 2 = 4611686018427387904 := by decide
      omega
  · omega
theorem fl_of_t (a b : Int) (hb : b ≠ 0) : fl a b = if a.tmod b ≠ 0 ∧ ((a.tmod b < 0) ≠ (b < 0)) then a.tdiv b - 1 else a.tdiv b := by
  obtain ⟨h, h1, h2, h3, h4⟩ := tq a b hb
  rcases Int.lt_or_gt_of_ne hb with hn | hp
  · split
    · rename_i hc
      have : ¬ (a.tmod b < 0) := fun e => hc.2 (by simp [e, hn])
      exact fl_neg hn (by rw [Int.mul_sub]; omega) (by rw [Int.mul_sub]; omega)
    · rename_i hc
      have : a.tmod b ≤ 0 := by
        apply Classical.byContradiction; intro hx
        exact hc ⟨by omega, by simp only [ne_eq, eq_iff_iff]; omega⟩
      exact fl_neg hn (by omega) (by omega)
  · split
    · rename_i hc
      have : a.tmod b < 0 := by
        apply Classical.byContradiction; intro hx
        exact hc.2 (by simp only [eq_iff_iff]; omega)
      exact fl_pos hp (by rw [Int.mul_sub]; omega) (by rw [Int.mul_sub]; omega)
    · rename_i hc
      have : 0 ≤ a.tmod b := by
        apply Classical.byContradiction; intro hx
        exact hc ⟨by omega, by simp only [ne_eq, eq_iff_iff]; omega⟩
      exact fl_pos hp (by omega) (by omega)
/-- the floor's quotient is an int, wherever the division is one -/
theorem fl_range (a b : Int) (ha : I64 a) (hb : b ≠ 0) (ho : ¬ (a = -9223372036854775808 ∧ b = -1)) : I64 (fl a b) := by
  have hr := tdiv_range a b ha hb ho
  rw [fl_of_t a b hb]
  split
  · rename_i hc
    have := tq a b hb
    unfold I64 at *
    have hne : a.tdiv b ≠ -9223372036854775808 := by
      intro e
      have h1 := Int.natAbs_tdiv a b
      have h2 : a.natAbs.div b.natAbs = a.natAbs / b.natAbs := rfl
      rw [e, h2] at h1
      have h4 : (a.natAbs / b.natAbs) * b.natAbs ≤ a.natAbs := Nat.div_mul_le_self _ _
      rw [← h1] at h4
      have h5 : (-9223372036854775808 : Int).natAbs = 9223372036854775808 := rfl
      rw [h5] at h4
      have h6 : b.natAbs = 1 := by omega
      have h7 := this.2.1
      have h8 := this.2.2.1
      rw [h6] at h7 h8
      omega
    omega
  · exact hr
def rnd (a b : Int) : Int := fl (2 * a + b) (2 * b)
theorem rnd_of_fl (a b : Int) (hb : b ≠ 0) : rnd a b = if (a - b * fl a b).natAbs ≥ b.natAbs - (a - b * fl a b).natAbs then fl a b + 1 else fl a b := by
  unfold rnd
  rcases Int.lt_or_gt_of_ne hb with hn | hp
  · obtain ⟨h1, h2⟩ := fl_spec_neg a hn
    generalize fl a b = q at *
    have e1 : 2 * b * (q + 1) = 2 * (b * q) + 2 * b := by rw [Int.mul_add, Int.mul_assoc]; omega
    have e2 : 2 * b * q = 2 * (b * q) := by rw [Int.mul_assoc]
    generalize b * q = p at *
    split
    · exact fl_neg (by omega) (by omega) (by omega)
    · exact fl_neg (by omega) (by omega) (by omega)
  · obtain ⟨h1, h2⟩ := fl_spec_pos a hp
    generalize fl a b = q at *
    have e1 : 2 * b * (q + 1) = 2 * (b * q) + 2 * b := by rw [Int.mul_add, Int.mul_assoc]; omega
    have e2 : 2 * b * q = 2 * (b * q) := by rw [Int.mul_assoc]
    generalize b * q = p at *
    split
    · exact fl_pos (by omega) (by omega) (by omega)
    · exact fl_pos (by omega) (by omega) (by omega)
theorem fl_rest (a b : Int) (hb : b ≠ 0) : (a - b * fl a b).natAbs < b.natAbs := by
  rcases Int.lt_or_gt_of_ne hb with hn | hp
  · have := fl_spec_neg a hn; omega
  · have := fl_spec_pos a hp; omega
theorem rnd_range (a b : Int) (ha : I64 a) (hb : b ≠ 0) (ho : ¬ (a = -9223372036854775808 ∧ b = -1)) : I64 (rnd a b) := by
  have hr := fl_range a b ha hb ho
  have ht := fl_rest a b hb
  rw [rnd_of_fl a b hb]
  split
  · rename_i hc
    have hb2 : 2 ≤ b.natAbs := by omega
    unfold I64 at *
    have : fl a b ≤ 9223372036854775806 := by
      apply Classical.byContradiction; intro hx
      have e : fl a b = 9223372036854775807 := by omega
      rcases Int.lt_or_gt_of_ne hb with hn | hp
      · have := fl_spec_neg a hn; rw [e] at this; omega
      · have := fl_spec_pos a hp; rw [e] at this; omega
    omega
  · exact hr
end Go.Proofs.Ytjclioakdmilmaa.Num
