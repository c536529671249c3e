/- Plain arithmetic and plain words of the layers num, geom and cut, in one text. No program in sight. -/
section
namespace Go.Proofs.Ytpdiojndfckmfaa.Num
def fl (a b : Int) : Int := if 0 < b then a / b else (-a) / (-b)
def chk (a b : Int) : Int := if b = 0 then 21 else if a = -9223372036854775808 ∧ b = -1 then 15 else 0
def I64 (n : Int) : Prop := -9223372036854775808 ≤ n ∧ n ≤ 9223372036854775807
theorem fl_pos {a b q : Int} (hb : 0 < b) (h1 : b * q ≤ a) (h2 : a < b * q + b) : fl a b = q := by
  unfold fl; rw [if_pos hb]
  have h := Int.mul_ediv_add_emod a b
  have h3 := Int.emod_nonneg a (Int.ne_of_gt hb)
  have h4 := Int.emod_lt_of_pos a hb
  have h5 : b * (a / b - q) < b * 1 := by rw [Int.mul_sub]; omega
  have h6 : b * (-1) < b * (a / b - q) := by rw [Int.mul_sub]; omega
  have h7 := Int.lt_of_mul_lt_mul_left h5 (Int.le_of_lt hb)
  have h8 := Int.lt_of_mul_lt_mul_left h6 (Int.le_of_lt hb)
  omega
theorem fl_neg {a b q : Int} (hb : b < 0) (h1 : a ≤ b * q) (h2 : b * q + b < a) : fl a b = q := by
  have := fl_pos (a := -a) (b := -b) (q := q) (by omega) (by rw [Int.neg_mul]; omega) (by rw [Int.neg_mul]; omega)
  unfold fl at this ⊢
  rw [if_pos (by omega)] at this
  rw [if_neg (by omega)]; exact this
/-- the two bounds of the floor -/
theorem fl_spec_pos (a : Int) {b : Int} (hb : 0 < b) : b * fl a b ≤ a ∧ a < b * fl a b + b := by
  unfold fl; rw [if_pos hb]
  have h := Int.mul_ediv_add_emod a b
  have h3 := Int.emod_nonneg a (Int.ne_of_gt hb)
  have h4 := Int.emod_lt_of_pos a hb
  omega
theorem fl_spec_neg (a : Int) {b : Int} (hb : b < 0) : a ≤ b * fl a b ∧ b * fl a b + b < a := by
  have := fl_spec_pos (-a) (b := -b) (by omega)
  unfold fl at this ⊢
  rw [if_pos (by omega)] at this
  rw [if_neg (by omega)]
  rw [Int.neg_mul] at this
  omega
theorem tq (a b : Int) (hb : b ≠ 0) : b * a.tdiv b + a.tmod b = a ∧ -b.natAbs < a.tmod b ∧ a.tmod b < b.natAbs ∧ (0 ≤ a → 0 ≤ a.tmod b) ∧ (a ≤ 0 → a.tmod b ≤ 0) := by
  have h1 := Int.natAbs_tmod a b
  have h2 : a.natAbs % b.natAbs < b.natAbs := Nat.mod_lt _ (by omega)
  refine ⟨Int.mul_tdiv_add_tmod a b, by omega, by omega, fun h => Int.tmod_nonneg b h, fun h => ?_⟩
  have := Int.tmod_nonneg (a := -a) b (by omega)
  rw [Int.neg_tmod] at this
  omega
theorem tdiv_range (a b : Int) (ha : I64 a) (hb : b ≠ 0) (ho : ¬ (a = -9223372036854775808 ∧ b = -1)) : I64 (a.tdiv b) := by
  unfold I64 at *
  have h1 := Int.natAbs_tdiv a b
  have h2 : a.natAbs.div b.natAbs ≤ a.natAbs := Nat.div_le_self _ _
  by_cases hm : a = -9223372036854775808
  · subst hm
    have hb1 : b ≠ -1 := fun e => ho ⟨rfl, e⟩
    by_cases hb2 : b = 1
    · subst hb2; simp
    · have : b.natAbs ≥ 2 := by omega
      have h3 : (-9223372036854775808 : Int).natAbs.div b.natAbs ≤ (-9223372036854775808 : Int).natAbs / 2 := Nat.div_le_div_left this (by omega)
      have h4 : (-9223372036854775808 : Int).natAbs / 2 = 4611686018427387904 := by decide
      omega
  · omega
theorem fl_of_t (a b : Int) (hb : b ≠ 0) : fl a b = if a.tmod b ≠ 0 ∧ ((a.tmod b < 0) ≠ (b < 0)) then a.tdiv b - 1 else a.tdiv b := by
  obtain ⟨h, h1, h2, h3, h4⟩ := tq a b hb
  rcases Int.lt_or_gt_of_ne hb with hn | hp
  · split
    · rename_i hc
      have : ¬ (a.tmod b < 0) := fun e => hc.2 (by simp [e, hn])
      exact fl_neg hn (by rw [Int.mul_sub]; omega) (by rw [Int.mul_sub]; omega)
    · rename_i hc
      have : a.tmod b ≤ 0 := by
        apply Classical.byContradiction; intro hx
        exact hc ⟨by omega, by simp only [ne_eq, eq_iff_iff]; omega⟩
      exact fl_neg hn (by omega) (by omega)
  · split
    · rename_i hc
      have : a.tmod b < 0 := by
        apply Classical.byContradiction; intro hx
        exact hc.2 (by simp only [eq_iff_iff]; omega)
      exact fl_pos hp (by rw [Int.mul_sub]; omega) (by rw [Int.mul_sub]; omega)
    · rename_i hc
      have : 0 ≤ a.tmod b := by
        apply Classical.byContradiction; intro hx
        exact hc ⟨by omega, by simp only [ne_eq, eq_iff_iff]; omega⟩
      exact fl_pos hp (by omega) (by omega)
/-- the floor's quotient is an int, wherever the division is one -/
theorem fl_range (a b : Int) (ha : I64 a) (hb : b ≠ 0) (ho : ¬ (a = -9223372036854775808 ∧ b = -1)) : I64 (fl a b) := by
  have hr := tdiv_range a b ha hb ho
  rw [fl_of_t a b hb]
  split
  · rename_i hc
    have := tq a b hb
    unfold I64 at *
    have hne : a.tdiv b ≠ -9223372036854775808 := by
      intro e
      have h1 := Int.natAbs_tdiv a b
      have h2 : a.natAbs.div b.natAbs = a.natAbs / b.natAbs := rfl
      rw [e, h2] at h1
      have h4 : (a.natAbs / b.natAbs) * b.natAbs ≤ a.natAbs := Nat.div_mul_le_self _ _
      rw [← h1] at h4
      have h5 : (-9223372036854775808 : Int).natAbs = 9223372036854775808 := rfl
      rw [h5] at h4
      have h6 : b.natAbs = 1 := by omega
      have h7 := this.2.1
      have h8 := this.2.2.1
      rw [h6] at h7 h8
      omega
    omega
  · exact hr
def rnd (a b : Int) : Int := fl (2 * a + b) (2 * b)
theorem rnd_of_fl (a b : Int) (hb : b ≠ 0) : rnd a b = if (a - b * fl a b).natAbs ≥ b.natAbs - (a - b * fl a b).natAbs then fl a b + 1 else fl a b := by
  unfold rnd
  rcases Int.lt_or_gt_of_ne hb with hn | hp
  · obtain ⟨h1, h2⟩ := fl_spec_neg a hn
    generalize fl a b = q at *
    have e1 : 2 * b * (q + 1) = 2 * (b * q) + 2 * b := by rw [Int.mul_add, Int.mul_assoc]; omega
    have e2 : 2 * b * q = 2 * (b * q) := by rw [Int.mul_assoc]
    generalize b * q = p at *
    split
    · exact fl_neg (by omega) (by omega) (by omega)
    · exact fl_neg (by omega) (by omega) (by omega)
  · obtain ⟨h1, h2⟩ := fl_spec_pos a hp
    generalize fl a b = q at *
    have e1 : 2 * b * (q + 1) = 2 * (b * q) + 2 * b := by rw [Int.mul_add, Int.mul_assoc]; omega
    have e2 : 2 * b * q = 2 * (b * q) := by rw [Int.mul_assoc]
    generalize b * q = p at *
    split
    · exact fl_pos (by omega) (by omega) (by omega)
    · exact fl_pos (by omega) (by omega) (by omega)
theorem fl_rest (a b : Int) (hb : b ≠ 0) : (a - b * fl a b).natAbs < b.natAbs := by
  rcases Int.lt_or_gt_of_ne hb with hn | hp
  · have := fl_spec_neg a hn; omega
  · have := fl_spec_pos a hp; omega
theorem rnd_range (a b : Int) (ha : I64 a) (hb : b ≠ 0) (ho : ¬ (a = -9223372036854775808 ∧ b = -1)) : I64 (rnd a b) := by
  have hr := fl_range a b ha hb ho
  have ht := fl_rest a b hb
  rw [rnd_of_fl a b hb]
  split
  · rename_i hc
    have hb2 : 2 ≤ b.natAbs := by omega
    unfold I64 at *
    have : fl a b ≤ 9223372036854775806 := by
      apply Classical.byContradiction; intro hx
      have e : fl a b = 9223372036854775807 := by omega
      rcases Int.lt_or_gt_of_ne hb with hn | hp
      · have := fl_spec_neg a hn; rw [e] at this; omega
      · have := fl_spec_pos a hp; rw [e] at this; omega
    omega
  · exact hr
end Go.Proofs.Ytpdiojndfckmfaa.Num
end
section
namespace Go.Proofs.Ytpdiojndfckmfaa.Num
/-- the reference's sign: negative quotients -/
def mns (a b : Int) : Bool := (decide (a < 0) && decide (0 < b)) || (decide (0 < a) && decide (b < 0))
def sgE (minus : Bool) (m : Int) : Int := if 9223372036854775808 < m ∨ (m = 9223372036854775808 ∧ minus = false) then 15 else 0
def sgV (minus : Bool) (m : Int) : Int := if sgE minus m = 0 then (if minus = true then -m else m) else 0
def rQ (a b : Int) : Nat := if a.natAbs % b.natAbs > b.natAbs - a.natAbs % b.natAbs ∨ (a.natAbs % b.natAbs = b.natAbs - a.natAbs % b.natAbs ∧ mns a b = false) then a.natAbs / b.natAbs + 1 else a.natAbs / b.natAbs
theorem rnd_of_rQ (a b : Int) (hb : b ≠ 0) : rnd a b = if mns a b = true then -(rQ a b : Int) else rQ a b := by
  have h0 := Nat.div_add_mod a.natAbs b.natAbs
  have h1 : a.natAbs % b.natAbs < b.natAbs := Nat.mod_lt _ (by omega)
  have hm : mns a b = true ↔ ((a < 0 ∧ 0 < b) ∨ (0 < a ∧ b < 0)) := by unfold mns; simp
  unfold rnd rQ
  generalize a.natAbs / b.natAbs = q at *
  generalize a.natAbs % b.natAbs = r at *
  generalize mns a b = m at *
  rcases Int.lt_or_gt_of_ne hb with hn | hp
  · have e0 : (b.natAbs : Int) * (q : Int) = -(b * (q : Int)) := by
      rw [show (b.natAbs : Int) = -b by omega, Int.neg_mul]
    have h0' : (b.natAbs : Int) * (q : Int) + r = a.natAbs := by exact_mod_cast h0
    rw [e0] at h0'
    have e1 : 2 * b * ((q : Int) + 1) = 2 * (b * (q : Int)) + 2 * b := by rw [Int.mul_add, Int.mul_assoc]; omega
    have e2 : 2 * b * (q : Int) = 2 * (b * (q : Int)) := by rw [Int.mul_assoc]
    have e3 : 2 * b * (-((q : Int) + 1)) = -(2 * (b * (q : Int)) + 2 * b) := by rw [Int.mul_neg, e1]
    have e4 : 2 * b * (-(q : Int)) = -(2 * (b * (q : Int))) := by rw [Int.mul_neg, e2]
    generalize b * (q : Int) = p at *
    by_cases hm' : m = true
    · simp only [hm', if_true, Bool.true_eq_false, and_false, or_false]
      have hm2 := hm.1 hm'
      split
      · exact fl_neg (by omega) (by push_cast; omega) (by push_cast; omega)
      · exact fl_neg (by omega) (by omega) (by omega)
    · have hmf : m = false := by simpa using hm'
      have hm2 := fun h => hm' (hm.2 h)
      simp only [hmf, and_true, if_false, Bool.false_eq_true]
      have ha : a ≤ 0 := by
        apply Classical.byContradiction; intro hx; exact hm2 (Or.inr ⟨by omega, hn⟩)
      split
      · exact fl_neg (by omega) (by push_cast; omega) (by push_cast; omega)
      · exact fl_neg (by omega) (by omega) (by omega)
  · have e0 : (b.natAbs : Int) * (q : Int) = b * (q : Int) := by
      rw [show (b.natAbs : Int) = b by omega]
    have h0' : (b.natAbs : Int) * (q : Int) + r = a.natAbs := by exact_mod_cast h0
    rw [e0] at h0'
    have e1 : 2 * b * ((q : Int) + 1) = 2 * (b * (q : Int)) + 2 * b := by rw [Int.mul_add, Int.mul_assoc]; omega
    have e2 : 2 * b * (q : Int) = 2 * (b * (q : Int)) := by rw [Int.mul_assoc]
    have e3 : 2 * b * (-((q : Int) + 1)) = -(2 * (b * (q : Int)) + 2 * b) := by rw [Int.mul_neg, e1]
    have e4 : 2 * b * (-(q : Int)) = -(2 * (b * (q : Int))) := by rw [Int.mul_neg, e2]
    generalize b * (q : Int) = p at *
    by_cases hm' : m = true
    · simp only [hm', if_true, Bool.true_eq_false, and_false, or_false]
      have hm2 := hm.1 hm'
      split
      · exact fl_pos (by omega) (by push_cast; omega) (by push_cast; omega)
      · exact fl_pos (by omega) (by omega) (by omega)
    · have hmf : m = false := by simpa using hm'
      have hm2 := fun h => hm' (hm.2 h)
      simp only [hmf, and_true, if_false, Bool.false_eq_true]
      have ha : 0 ≤ a := by
        apply Classical.byContradiction; intro hx; exact hm2 (Or.inl ⟨by omega, hp⟩)
      split
      · exact fl_pos (by omega) (by push_cast; omega) (by push_cast; omega)
      · exact fl_pos (by omega) (by omega) (by omega)
theorem sg_of_range {m : Bool} {n : Nat} (h : I64 (if m = true then -(n : Int) else n)) : sgE m n = 0 ∧ sgV m n = if m = true then -(n : Int) else n := by
  have h0 : sgE m n = 0 := by
    unfold sgE
    rw [if_neg]
    unfold I64 at h
    cases m <;> simp at h ⊢ <;> omega
  exact ⟨h0, by unfold sgV; rw [if_pos h0]⟩
theorem rQ_sg (a b : Int) (ha : I64 a) (hb : b ≠ 0) (ho : ¬ (a = -9223372036854775808 ∧ b = -1)) : sgE (mns a b) (rQ a b) = 0 ∧ sgV (mns a b) (rQ a b) = rnd a b := by
  have h := rnd_range a b ha hb ho
  rw [rnd_of_rQ a b hb] at h ⊢
  exact sg_of_range h
theorem rQ_over : sgE (mns (-9223372036854775808) (-1)) (rQ (-9223372036854775808) (-1)) = 15 ∧ sgV (mns (-9223372036854775808) (-1)) (rQ (-9223372036854775808) (-1)) = 0 := by
  decide
end Go.Proofs.Ytpdiojndfckmfaa.Num
end
section
namespace Go.Proofs.Ytpdiojndfckmfaa.Num
def gd (a b : Int) : Nat := Nat.gcd a.natAbs b.natAbs
def upq (a b : Int) : Nat := a.natAbs / gd a b
def loq (a b : Int) : Nat := b.natAbs / gd a b
def ngt (a b : Int) : Bool := decide (a < 0) != decide (b < 0)
/-- an absolute value has its int -/
def sOk (neg : Bool) (n : Nat) : Bool := if neg = true then decide (n ≤ 9223372036854775808) else decide (n ≤ 9223372036854775807)
def sVal (neg : Bool) (n : Nat) : Int := if sOk neg n = true then (if neg = true then -(n : Int) else n) else 0
def mkOk (a b : Int) : Bool := sOk (ngt a b) (upq a b) && sOk false (loq a b)
def mkE (a b : Int) : Int := if b = 0 then 21 else if mkOk a b = true then 0 else 15
def mkN (a b : Int) : Int := if mkE a b = 0 then sVal (ngt a b) (upq a b) else 0
def mkD (a b : Int) : Int := if mkE a b = 0 then sVal false (loq a b) else 0
theorem gd_pos {a b : Int} (h : b ≠ 0) : 0 < gd a b := Nat.gcd_pos_of_pos_right _ (by omega)
theorem upq_le (a b : Int) : upq a b ≤ a.natAbs := Nat.div_le_self _ _
theorem loq_le (a b : Int) : loq a b ≤ b.natAbs := Nat.div_le_self _ _
theorem upq_mul (a b : Int) : upq a b * gd a b = a.natAbs := Nat.div_mul_cancel (Nat.gcd_dvd_left _ _)
theorem loq_mul (a b : Int) : loq a b * gd a b = b.natAbs := Nat.div_mul_cancel (Nat.gcd_dvd_right _ _)
theorem loq_pos {a b : Int} (h : b ≠ 0) : 0 < loq a b := by
  have h1 := loq_mul a b
  rcases Nat.eq_zero_or_pos (loq a b) with h0 | h0
  · rw [h0, Nat.zero_mul] at h1; omega
  · exact h0
theorem coprime_q {a b : Int} (h : b ≠ 0) : Nat.gcd (upq a b) (loq a b) = 1 := Nat.gcd_div_gcd_div_gcd_of_pos_right (by omega)
theorem mk_small {a b : Int} (ha : -9223372036854775807 ≤ a) (ha' : a ≤ 9223372036854775807) (hb : 0 < b) (hb' : b ≤ 9223372036854775807) :
    mkE a b = 0 ∧ mkN a b = a / (gd a b : Int) ∧ mkD a b = b / (gd a b : Int) ∧ mkN a b * gd a b = a ∧ mkD a b * gd a b = b ∧ 0 < mkD a b ∧ mkD a b ≤ b ∧ 0 < gd a b ∧ Nat.gcd (mkN a b).natAbs (mkD a b).natAbs = 1 := by
  have hg : 0 < gd a b := gd_pos (by omega)
  have hu := upq_le a b
  have hl := loq_le a b
  have e0 : mkOk a b = true := by
    unfold mkOk sOk
    simp only [Bool.and_eq_true, Bool.false_eq_true, if_false]
    constructor
    · split <;> simp <;> omega
    · simp; omega
  have e1 : mkE a b = 0 := by unfold mkE; rw [if_neg (by omega), if_pos e0]
  have s1 : sOk (ngt a b) (upq a b) = true := by unfold mkOk at e0; simp at e0; exact e0.1
  have s2 : sOk false (loq a b) = true := by unfold mkOk at e0; simp at e0; exact e0.2
  have e2 : mkN a b = if a < 0 then -(upq a b : Int) else upq a b := by
    unfold mkN sVal; rw [if_pos e1, if_pos s1]
    have hb0 : decide (b < 0) = false := by simp; omega
    unfold ngt; rw [hb0]
    by_cases h : a < 0 <;> simp [h]
  have e3 : mkD a b = loq a b := by
    unfold mkD sVal; rw [if_pos e1, if_pos s2]; rfl
  have m1 := upq_mul a b
  have m2 := loq_mul a b
  have m1' : (upq a b : Int) * gd a b = a.natAbs := by exact_mod_cast m1
  have m2' : (loq a b : Int) * gd a b = b.natAbs := by exact_mod_cast m2
  have hp := loq_pos (a := a) (b := b) (by omega)
  have f1 : mkN a b * gd a b = a := by
    rw [e2]; split
    · rw [Int.neg_mul, m1']; omega
    · rw [m1']; omega
  have f2 : mkD a b * gd a b = b := by rw [e3, m2']; omega
  have hg' : (gd a b : Int) ≠ 0 := by omega
  have hab : (mkN a b).natAbs = upq a b := by rw [e2]; split <;> omega
  have hbb : (mkD a b).natAbs = loq a b := by rw [e3]; omega
  refine ⟨e1, ?_, ?_, f1, f2, by omega, by omega, hg, ?_⟩
  · exact (Int.ediv_eq_of_eq_mul_left hg' f1.symm).symm
  · exact (Int.ediv_eq_of_eq_mul_left hg' f2.symm).symm
  · rw [hab, hbb]; exact coprime_q (by omega)
theorem gd_add (a b n : Int) : gd (a + n * b) b = gd a b := by
  show Int.gcd (a + n * b) b = Int.gcd a b
  simp
/-- a whole number more -/
theorem mk_raise {a b n : Int} (ha : -4611686018427387904 ≤ a) (ha' : a ≤ 4611686018427387904) (hb : 0 < b) (hb' : b ≤ 9223372036854775807) (hn : -4611686018427387903 ≤ n * b) (hn' : n * b ≤ 4611686018427387903) :
    mkE (a + n * b) b = 0 ∧ mkE a b = 0 ∧ mkD (a + n * b) b = mkD a b ∧ mkN (a + n * b) b = mkN a b + n * mkD a b := by
  obtain ⟨p1, p2, p3, p4, p5, p6, p7, p8, -⟩ := mk_small (a := a) (b := b) (by omega) (by omega) hb hb'
  obtain ⟨q1, q2, q3, q4, q5, q6, q7, q8, -⟩ := mk_small (a := a + n * b) (b := b) (by omega) (by omega) hb hb'
  rw [gd_add] at q2 q3 q4 q5
  refine ⟨q1, p1, by rw [q3, p3], ?_⟩
  apply Int.eq_of_mul_eq_mul_right (a := (gd a b : Int)) (by omega)
  rw [q4, Int.add_mul, p4, Int.mul_assoc, p5]
end Go.Proofs.Ytpdiojndfckmfaa.Num
end
section
set_option linter.unusedVariables false
namespace Go.Proofs.Ytpdiojndfckmfaa.Num
/-- a fraction is valid -/
def vld (n d : Int) : Bool := decide (0 < d) && ((gd n d : Int) == 1)
def sgnI (x : Int) : Int := if x < 0 then -1 else if 0 < x then 1 else 0
/-- what Cmp returns -/
def cmpF (an ad bn bd : Int) : Int := if vld an ad = true ∧ vld bn bd = true then sgnI (an * bd - bn * ad) else 0
theorem vld_pos {n d : Int} (h : vld n d = true) : 0 < d := by unfold vld at h; simp at h; exact h.1
theorem cmp_sign {an ad bn bd : Int} (ha : 0 < ad) (hb : 0 < bd) (h : ¬ (an < 0 ↔ bn < 0)) : sgnI (an * bd - bn * ad) = if an < 0 then -1 else 1 := by
  unfold sgnI
  rcases Int.lt_or_le an 0 with h1 | h1
  · have h2 : 0 ≤ bn := by omega
    have p1 : an * bd < 0 := Int.mul_neg_of_neg_of_pos h1 hb
    have p2 : 0 ≤ bn * ad := Int.mul_nonneg h2 (by omega)
    rw [if_pos (by omega), if_pos h1]
  · have h2 : bn < 0 := by omega
    have p1 : 0 ≤ an * bd := Int.mul_nonneg h1 (by omega)
    have p2 : bn * ad < 0 := Int.mul_neg_of_neg_of_pos h2 ha
    rw [if_neg (by omega), if_pos (by omega), if_neg (by omega)]
/-- with the same sign, the products of the absolute values decide -/
theorem cmp_same {an ad bn bd : Int} (ha : 0 < ad) (hb : 0 < bd) (h : an < 0 ↔ bn < 0) :
    sgnI (an * bd - bn * ad) = if an < 0 then -sgnI (((an.natAbs * bd.natAbs : Nat) : Int) - ((bn.natAbs * ad.natAbs : Nat) : Int)) else sgnI (((an.natAbs * bd.natAbs : Nat) : Int) - ((bn.natAbs * ad.natAbs : Nat) : Int)) := by
  have e1 : (bd.natAbs : Int) = bd := by omega
  have e2 : (ad.natAbs : Int) = ad := by omega
  rw [Int.natCast_mul, Int.natCast_mul, e1, e2]
  rcases Int.lt_or_le an 0 with h1 | h1
  · have h2 : bn < 0 := h.1 h1
    rw [if_pos h1, show (an.natAbs : Int) = -an by omega, show (bn.natAbs : Int) = -bn by omega, Int.neg_mul, Int.neg_mul]
    unfold sgnI
    generalize an * bd = p at *
    generalize bn * ad = q at *
    repeat' split
    all_goals omega
  · have h2 : 0 ≤ bn := by omega
    rw [if_neg (by omega), show (an.natAbs : Int) = an by omega, show (bn.natAbs : Int) = bn by omega]
theorem sgn_lt {a b : Nat} (h : a < b) : sgnI ((a : Int) - b) = -1 := by unfold sgnI; rw [if_pos (by omega)]
theorem sgn_gt {a b : Nat} (h : b < a) : sgnI ((a : Int) - b) = 1 := by unfold sgnI; rw [if_neg (by omega), if_pos (by omega)]
theorem sgn_eq {a b : Nat} (h : a = b) : sgnI ((a : Int) - b) = 0 := by unfold sgnI; rw [if_neg (by omega), if_neg (by omega)]
end Go.Proofs.Ytpdiojndfckmfaa.Num
end
section
set_option linter.unusedVariables false
namespace Go.Proofs.Ytpdiojndfckmfaa.Num
def cl (a b : Int) : Int := if a - b * fl a b = 0 then fl a b else fl a b + 1
theorem cl_of_t (a b : Int) (hb : b ≠ 0) : cl a b = if a.tmod b ≠ 0 ∧ ((a.tmod b < 0) = (b < 0)) then a.tdiv b + 1 else a.tdiv b := by
  obtain ⟨h, h1, h2, h3, h4⟩ := tq a b hb
  unfold cl
  rw [fl_of_t a b hb]
  generalize a.tdiv b = t at *
  generalize a.tmod b = r at *
  by_cases hr : r = 0
  · have e1 : (if r ≠ 0 ∧ (r < 0) ≠ (b < 0) then t - 1 else t) = t := if_neg (fun hx => hx.1 hr)
    have e2 : (if r ≠ 0 ∧ (r < 0) = (b < 0) then t + 1 else t) = t := if_neg (fun hx => hx.1 hr)
    rw [e1, e2, if_pos (by omega)]
  · by_cases hs : (r < 0) = (b < 0)
    · have e1 : (if r ≠ 0 ∧ (r < 0) ≠ (b < 0) then t - 1 else t) = t := if_neg (fun hx => hx.2 hs)
      have e2 : (if r ≠ 0 ∧ (r < 0) = (b < 0) then t + 1 else t) = t + 1 := if_pos ⟨hr, hs⟩
      rw [e1, e2, if_neg (by omega)]
    · have e1 : (if r ≠ 0 ∧ (r < 0) ≠ (b < 0) then t - 1 else t) = t - 1 := if_pos ⟨hr, hs⟩
      have e2 : (if r ≠ 0 ∧ (r < 0) = (b < 0) then t + 1 else t) = t := if_neg (fun hx => hs hx.2)
      have e : b * (t - 1) = b * t - b := by rw [Int.mul_sub, Int.mul_one]
      rw [e1, e2, e, if_neg (by intro hx; omega)]
      omega
theorem cl_range (a b : Int) (ha : I64 a) (hb : b ≠ 0) (ho : ¬ (a = -9223372036854775808 ∧ b = -1)) : I64 (cl a b) := by
  have hr := tdiv_range a b ha hb ho
  rw [cl_of_t a b hb]
  split
  · rename_i hc
    have := tq a b hb
    unfold I64 at *
    have hne : a.tdiv b ≠ 9223372036854775807 := by
      intro e
      have h1 := Int.natAbs_tdiv a b
      have h2 : a.natAbs.div b.natAbs = a.natAbs / b.natAbs := rfl
      rw [e, h2] at h1
      have h4 : (a.natAbs / b.natAbs) * b.natAbs ≤ a.natAbs := Nat.div_mul_le_self _ _
      rw [← h1] at h4
      have h5 : (9223372036854775807 : Int).natAbs = 9223372036854775807 := rfl
      rw [h5] at h4
      have h6 : b.natAbs = 1 := by omega
      have h7 := this.2.1
      have h8 := this.2.2.1
      rw [h6] at h7 h8
      omega
    omega
  · exact hr
def clq (a b : Int) : Int := if chk a b = 0 then cl a b else 0
def gcV (a b : Int) : Int := if Nat.gcd a.natAbs b.natAbs ≤ 9223372036854775807 then (Nat.gcd a.natAbs b.natAbs : Int) else 0
end Go.Proofs.Ytpdiojndfckmfaa.Num
end
section
set_option linter.unusedVariables false
namespace Go.Proofs.Ytpdiojndfckmfaa.Num
theorem qy (q y1 y0 : Nat) : q * (y1 * 4294967296 + y0) = (q * y1) * 4294967296 + q * y0 := by rw [Nat.mul_add, Nat.mul_assoc]
theorem qy1 (q y1 y0 : Nat) : (q + 1) * (y1 * 4294967296 + y0) = (q * y1) * 4294967296 + q * y0 + y1 * 4294967296 + y0 := by rw [Nat.add_mul, qy, Nat.one_mul, Nat.add_assoc]; omega
theorem split32 (a : Nat) : a / 4294967296 * 4294967296 + a % 4294967296 = a := by omega
theorem top32_lt {a : Nat} (h : a < 18446744073709551616) : a / 4294967296 < 4294967296 := by omega
theorem top32_ge {a : Nat} (h : 9223372036854775808 ≤ a) : 2147483648 ≤ a / 4294967296 := by omega
theorem low32_lt (a : Nat) : a % 4294967296 < 4294967296 := Nat.mod_lt _ (by omega)
/-- a guess at a digit: it adds up, and is not too small -/
def Guess (u d y1 y0 q r : Nat) : Prop := q * y1 + r = u ∧ u * 4294967296 + d < (q + 1) * (y1 * 4294967296 + y0)
theorem guess_start {u d y1 y0 : Nat} (hy : 0 < y1) (hd : d < 4294967296) : Guess u d y1 y0 (u / y1) (u - u / y1 * y1) := by
  have h1 := Nat.div_add_mod u y1
  have h2 := Nat.mod_lt u hy
  rw [Nat.mul_comm] at h1
  refine ⟨by omega, ?_⟩
  rw [qy1]
  generalize u / y1 * y1 = P at *
  generalize u / y1 * y0 = Z at *
  omega
theorem guess_step {u d y1 y0 q r : Nat} (h : Guess u d y1 y0 q r) (hd : d < 4294967296) (hu : u < y1 * 4294967296 + y0) (hc : 4294967296 ≤ q ∨ 4294967296 * r + d < q * y0) : 1 ≤ q ∧ Guess u d y1 y0 (q - 1) (r + y1) := by
  obtain ⟨h1, h2⟩ := h
  have hq : 1 ≤ q := by
    rcases hc with h | h
    · omega
    · rcases Nat.eq_zero_or_pos q with h0 | h0
      · subst h0; rw [Nat.zero_mul] at h; omega
      · exact h0
  refine ⟨hq, ?_⟩
  obtain ⟨k, rfl⟩ : ∃ k, q = k + 1 := ⟨q - 1, by omega⟩
  have e : k + 1 - 1 = k := by omega
  rw [e]
  have h1' : k * y1 + y1 + r = u := by rw [Nat.add_mul, Nat.one_mul] at h1; exact h1
  refine ⟨by omega, ?_⟩
  rcases hc with h | h
  · have h3 := Nat.mul_le_mul_right (y1 * 4294967296 + y0) h
    generalize (k + 1) * (y1 * 4294967296 + y0) = T at *
    omega
  · rw [qy1]
    rw [Nat.add_mul, Nat.one_mul] at h
    generalize k * y1 = P at *
    generalize k * y0 = Z at *
    omega
/-- the digit -/
def dig (u d y1 y0 : Nat) : Nat := (u * 4294967296 + d) / (y1 * 4294967296 + y0)
theorem guess_is {u d y1 y0 q r : Nat} (h : Guess u d y1 y0 q r) (hz : q * y0 ≤ 4294967296 * r + d) : q = dig u d y1 y0 := by
  obtain ⟨h1, h2⟩ := h
  unfold dig
  refine (Nat.div_eq_of_lt_le ?_ h2).symm
  rw [qy]
  generalize q * y1 = P at *
  generalize q * y0 = Z at *
  omega
theorem guess_break {u d y1 y0 q r : Nat} (h : Guess u d y1 y0 q r) (hu : u < y1 * 4294967296 + y0) (h0 : y0 < 4294967296) (hr : 4294967296 ≤ r) : q = dig u d y1 y0 := by
  refine guess_is h ?_
  obtain ⟨h1, h2⟩ := h
  have hq : q < 4294967296 := by
    apply Classical.byContradiction; intro hx
    have := Nat.mul_le_mul_right y1 (show 4294967296 ≤ q by omega)
    omega
  have : q * y0 ≤ 4294967296 * 4294967296 := Nat.mul_le_mul (by omega) (by omega)
  omega
/-- a digit is one, and what is left is less than the divisor -/
theorem dig_lt {u d y1 y0 : Nat} (hu : u < y1 * 4294967296 + y0) (hd : d < 4294967296) : dig u d y1 y0 < 4294967296 := by
  unfold dig
  rw [Nat.div_lt_iff_lt_mul (by omega)]
  omega
def lft (u d y1 y0 : Nat) : Nat := (u * 4294967296 + d) % (y1 * 4294967296 + y0)
theorem lft_eq (u d y1 y0 : Nat) : dig u d y1 y0 * (y1 * 4294967296 + y0) + lft u d y1 y0 = u * 4294967296 + d := by
  have := Nat.div_add_mod (u * 4294967296 + d) (y1 * 4294967296 + y0)
  rw [Nat.mul_comm] at this
  exact this
theorem lft_lt {u d y1 y0 : Nat} (hu : u < y1 * 4294967296 + y0) : lft u d y1 y0 < y1 * 4294967296 + y0 := Nat.mod_lt _ (by omega)
theorem lin_two {A C r1 r0 d1 d0 u : Nat} (e1 : A + r1 = u * 4294967296 + d1) (e2 : C + r0 = r1 * 4294967296 + d0) : u * 18446744073709551616 + (d1 * 4294967296 + d0) = A * 4294967296 + C + r0 := by omega
/-- two digits are the whole quotient -/
theorem two_digits {u d1 d0 y1 y0 : Nat} (hu : u < y1 * 4294967296 + y0) (h1 : d1 < 4294967296) (h0 : d0 < 4294967296) :
    dig u d1 y1 y0 * 4294967296 + dig (lft u d1 y1 y0) d0 y1 y0 = (u * 18446744073709551616 + (d1 * 4294967296 + d0)) / (y1 * 4294967296 + y0) ∧ lft (lft u d1 y1 y0) d0 y1 y0 = (u * 18446744073709551616 + (d1 * 4294967296 + d0)) % (y1 * 4294967296 + y0) := by
  have e1 := lft_eq u d1 y1 y0
  have e2 := lft_eq (lft u d1 y1 y0) d0 y1 y0
  have l1 := lft_lt (d := d1) hu
  have l2 := lft_lt (d := d0) l1
  generalize lft u d1 y1 y0 = r1 at *
  generalize dig u d1 y1 y0 = q1 at *
  generalize lft r1 d0 y1 y0 = r0 at *
  generalize dig r1 d0 y1 y0 = q0 at *
  obtain ⟨y, hy⟩ : ∃ y, y1 * 4294967296 + y0 = y := ⟨_, rfl⟩
  rw [hy] at e1 e2 l1 l2 ⊢
  have e : u * 18446744073709551616 + (d1 * 4294967296 + d0) = (q1 * 4294967296 + q0) * y + r0 := by
    have e3 : q1 * 4294967296 * y = q1 * y * 4294967296 := Nat.mul_right_comm _ _ _
    rw [Nat.add_mul, e3]
    exact lin_two e1 e2
  rw [e]
  constructor
  · have hy0 : 0 < y := by omega
    clear e e1 e2 hy h1 h0 hu
    rw [Nat.add_comm (_ * y) r0, Nat.add_mul_div_right _ _ hy0, Nat.div_eq_of_lt l2, Nat.zero_add]
  · clear e e1 e2 hy h1 h0 hu
    rw [Nat.add_comm (_ * y) r0, Nat.add_mul_mod_self_right, Nat.mod_eq_of_lt l2]
/-- shifting both sides by s -/
theorem norm_parts {hi lo s : Nat} (hs : s ≤ 64) (hh : hi * 2 ^ s < 18446744073709551616) (hl : lo < 18446744073709551616) :
    (hi * 18446744073709551616 + lo) * 2 ^ s = (hi * 2 ^ s + lo / 2 ^ (64 - s)) * 18446744073709551616 + lo * 2 ^ s % 18446744073709551616 := by
  have e : (18446744073709551616 : Nat) = 2 ^ (64 - s) * 2 ^ s := by rw [← Nat.pow_add, show 64 - s + s = 64 by omega]
  have h1 := Nat.div_add_mod (lo * 2 ^ s) 18446744073709551616
  have h2 : lo * 2 ^ s / 18446744073709551616 = lo / 2 ^ (64 - s) := by
    conv => lhs; rw [e]
    exact Nat.mul_div_mul_right _ _ (Nat.pow_pos (by omega))
  rw [h2] at h1
  rw [Nat.add_mul, Nat.mul_right_comm]
  generalize hi * 2 ^ s = A at *
  generalize lo * 2 ^ s = C at *
  generalize lo / 2 ^ (64 - s) = D at *
  omega
theorem norm_lt {hi lo y s : Nat} (hs : s ≤ 64) (hhy : hi < y) (hl : lo < 18446744073709551616) : hi * 2 ^ s + lo / 2 ^ (64 - s) < y * 2 ^ s := by
  have e : (18446744073709551616 : Nat) = 2 ^ (64 - s) * 2 ^ s := by rw [← Nat.pow_add, show 64 - s + s = 64 by omega]
  have h1 : lo / 2 ^ (64 - s) < 2 ^ s := by
    rw [Nat.div_lt_iff_lt_mul (Nat.pow_pos (by omega)), Nat.mul_comm, ← e]; exact hl
  have h2 := Nat.mul_le_mul_right (2 ^ s) (show hi + 1 ≤ y by omega)
  rw [Nat.add_mul, Nat.one_mul] at h2
  omega
theorem unnorm (u y s : Nat) : u * 2 ^ s / (y * 2 ^ s) = u / y ∧ u * 2 ^ s % (y * 2 ^ s) / 2 ^ s = u % y := by
  have hp : 0 < 2 ^ s := Nat.pow_pos (by omega)
  refine ⟨Nat.mul_div_mul_right _ _ hp, ?_⟩
  rw [Nat.mul_mod_mul_right, Nat.mul_div_cancel _ hp]
end Go.Proofs.Ytpdiojndfckmfaa.Num
end
section
set_option linter.unusedVariables false
namespace Go.Proofs.Ytpdiojndfckmfaa.Num
def fQ (a b : Int) : Nat := if mns a b = true ∧ 0 < a.natAbs % b.natAbs then a.natAbs / b.natAbs + 1 else a.natAbs / b.natAbs
def cQ (a b : Int) : Nat := if mns a b = false ∧ 0 < a.natAbs % b.natAbs then a.natAbs / b.natAbs + 1 else a.natAbs / b.natAbs
theorem cl_pos {a b q : Int} (hb : 0 < b) (h1 : a ≤ b * q) (h2 : b * q - b < a) : cl a b = q := by
  unfold cl
  by_cases h : a = b * q
  · have e : fl a b = q := fl_pos hb (by omega) (by omega)
    rw [e, if_pos (by omega)]
  · have e1 : b * (q - 1) = b * q - b := by rw [Int.mul_sub, Int.mul_one]
    have e : fl a b = q - 1 := fl_pos hb (by omega) (by omega)
    rw [e, e1, if_neg (by omega)]; omega
theorem cl_neg {a b q : Int} (hb : b < 0) (h1 : b * q ≤ a) (h2 : a < b * q - b) : cl a b = q := by
  unfold cl
  by_cases h : a = b * q
  · have e : fl a b = q := fl_neg hb (by omega) (by omega)
    rw [e, if_pos (by omega)]
  · have e1 : b * (q - 1) = b * q - b := by rw [Int.mul_sub, Int.mul_one]
    have e : fl a b = q - 1 := fl_neg hb (by omega) (by omega)
    rw [e, e1, if_neg (by omega)]; omega
theorem abs_parts (a b : Int) (hb : b ≠ 0) : ∃ q r : Int, (a.natAbs / b.natAbs : Nat) = q ∧ (a.natAbs % b.natAbs : Nat) = r ∧ 0 ≤ r ∧ r < b.natAbs ∧ (0 < b → b * q + r = a.natAbs) ∧ (b < 0 → -(b * q) + r = a.natAbs) := by
  have h0 := Nat.div_add_mod a.natAbs b.natAbs
  have h1 : a.natAbs % b.natAbs < b.natAbs := Nat.mod_lt _ (by omega)
  have h0' : (b.natAbs : Int) * ((a.natAbs / b.natAbs : Nat) : Int) + ((a.natAbs % b.natAbs : Nat) : Int) = a.natAbs := by exact_mod_cast h0
  refine ⟨_, _, rfl, rfl, by omega, by omega, fun h => ?_, fun h => ?_⟩
  · rw [show (b.natAbs : Int) = b by omega] at h0'; exact h0'
  · rw [show (b.natAbs : Int) = -b by omega, Int.neg_mul] at h0'; exact h0'
theorem fl_of_fQ (a b : Int) (hb : b ≠ 0) : fl a b = if mns a b = true then -(fQ a b : Int) else fQ a b := by
  obtain ⟨q, r, hq, hr, r0, r1, hp, hn⟩ := abs_parts a b hb
  have hm : mns a b = true ↔ ((a < 0 ∧ 0 < b) ∨ (0 < a ∧ b < 0)) := by unfold mns; simp
  have hmf : mns a b = false ↔ ¬ ((a < 0 ∧ 0 < b) ∨ (0 < a ∧ b < 0)) := by rw [← hm]; simp
  have hf : (fQ a b : Int) = if mns a b = true ∧ 0 < r then q + 1 else q := by
    unfold fQ
    have : (0 < a.natAbs % b.natAbs) ↔ 0 < r := by omega
    by_cases hc : mns a b = true ∧ 0 < r
    · rw [if_pos (by rw [this]; exact hc), if_pos hc, ← hq]; push_cast; rfl
    · rw [if_neg (by rw [this]; exact hc), if_neg hc, ← hq]
  rw [hf]
  generalize mns a b = m at *
  clear hf hq hr
  have e1 : b * (q + 1) = b * q + b := by rw [Int.mul_add, Int.mul_one]
  have e2 : b * (-(q + 1)) = -(b * q) - b := by rw [Int.mul_neg, e1]; omega
  have e3 : b * (-q) = -(b * q) := Int.mul_neg _ _
  cases m
  · have hx := hmf.1 rfl
    simp only [Bool.false_eq_true, false_and, if_false]
    rcases Int.lt_or_gt_of_ne hb with h | h
    · have := hn h
      exact fl_neg h (by omega) (by omega)
    · have := hp h
      exact fl_pos h (by omega) (by omega)
  · have hx := hm.1 rfl
    simp only [true_and, if_true]
    rcases Int.lt_or_gt_of_ne hb with h | h
    · have := hn h
      split
      · exact fl_neg h (by omega) (by omega)
      · exact fl_neg h (by omega) (by omega)
    · have := hp h
      split
      · exact fl_pos h (by omega) (by omega)
      · exact fl_pos h (by omega) (by omega)
theorem cl_of_cQ (a b : Int) (hb : b ≠ 0) : cl a b = if mns a b = true then -(cQ a b : Int) else cQ a b := by
  obtain ⟨q, r, hq, hr, r0, r1, hp, hn⟩ := abs_parts a b hb
  have hm : mns a b = true ↔ ((a < 0 ∧ 0 < b) ∨ (0 < a ∧ b < 0)) := by unfold mns; simp
  have hmf : mns a b = false ↔ ¬ ((a < 0 ∧ 0 < b) ∨ (0 < a ∧ b < 0)) := by rw [← hm]; simp
  have hf : (cQ a b : Int) = if mns a b = false ∧ 0 < r then q + 1 else q := by
    unfold cQ
    have : (0 < a.natAbs % b.natAbs) ↔ 0 < r := by omega
    by_cases hc : mns a b = false ∧ 0 < r
    · rw [if_pos (by rw [this]; exact hc), if_pos hc, ← hq]; push_cast; rfl
    · rw [if_neg (by rw [this]; exact hc), if_neg hc, ← hq]
  rw [hf]
  generalize mns a b = m at *
  clear hf hq hr
  have e1 : b * (q + 1) = b * q + b := by rw [Int.mul_add, Int.mul_one]
  have e3 : b * (-q) = -(b * q) := Int.mul_neg _ _
  cases m
  · have hx := hmf.1 rfl
    simp only [Bool.false_eq_true, true_and, if_false]
    rcases Int.lt_or_gt_of_ne hb with h | h
    · have := hn h
      split
      · exact cl_neg h (by omega) (by omega)
      · exact cl_neg h (by omega) (by omega)
    · have := hp h
      split
      · exact cl_pos h (by omega) (by omega)
      · exact cl_pos h (by omega) (by omega)
  · have hx := hm.1 rfl
    simp only [Bool.true_eq_false, false_and, if_true, if_false]
    rcases Int.lt_or_gt_of_ne hb with h | h
    · have := hn h
      exact cl_neg h (by omega) (by omega)
    · have := hp h
      exact cl_pos h (by omega) (by omega)
theorem fQ_sg (a b : Int) (ha : I64 a) (hb : b ≠ 0) (ho : ¬ (a = -9223372036854775808 ∧ b = -1)) : sgE (mns a b) (fQ a b) = 0 ∧ sgV (mns a b) (fQ a b) = fl a b := by
  have h := fl_range a b ha hb ho
  rw [fl_of_fQ a b hb] at h ⊢
  exact sg_of_range h
theorem cQ_sg (a b : Int) (ha : I64 a) (hb : b ≠ 0) (ho : ¬ (a = -9223372036854775808 ∧ b = -1)) : sgE (mns a b) (cQ a b) = 0 ∧ sgV (mns a b) (cQ a b) = cl a b := by
  have h := cl_range a b ha hb ho
  rw [cl_of_cQ a b hb] at h ⊢
  exact sg_of_range h
theorem fQ_over : sgE (mns (-9223372036854775808) (-1)) (fQ (-9223372036854775808) (-1)) = 15 ∧ sgV (mns (-9223372036854775808) (-1)) (fQ (-9223372036854775808) (-1)) = 0 := by
  decide
theorem cQ_over : sgE (mns (-9223372036854775808) (-1)) (cQ (-9223372036854775808) (-1)) = 15 ∧ sgV (mns (-9223372036854775808) (-1)) (cQ (-9223372036854775808) (-1)) = 0 := by
  decide
/-- what NumDivides asks of the three quotients -/
theorem divides_law (a b : Int) (ha : I64 a) (hb : b ≠ 0) (ho : ¬ (a = -9223372036854775808 ∧ b = -1)) :
    ∃ r : Int, a - b * fl a b = r ∧ (0 < b → 0 ≤ r ∧ r < b) ∧ (b < 0 → r ≤ 0 ∧ b < r) ∧ (r = 0 → cl a b = fl a b ∧ rnd a b = fl a b) ∧ (r ≠ 0 → cl a b = fl a b + 1 ∧ fl a b + 1 ≤ 9223372036854775807 ∧ (rnd a b = fl a b ∨ rnd a b = cl a b)) := by
  refine ⟨_, rfl, fun h => ?_, fun h => ?_, fun h => ?_, fun h => ?_⟩
  · have := fl_spec_pos a h; omega
  · have := fl_spec_neg a h; omega
  · have e : cl a b = fl a b := by unfold cl; rw [if_pos h]
    refine ⟨e, ?_⟩
    rw [rnd_of_fl a b hb, h]
    rw [if_neg (by simp; omega)]
  · have e : cl a b = fl a b + 1 := by unfold cl; rw [if_neg h]
    have hr := cl_range a b ha hb ho
    unfold I64 at hr
    refine ⟨e, by omega, ?_⟩
    rw [rnd_of_fl a b hb]
    split
    · right; omega
    · left; rfl
/-- what NumGcd asks -/
theorem gcV_comm (a b : Int) : gcV a b = gcV b a := by unfold gcV; rw [Nat.gcd_comm]
theorem gcV_nonneg (a b : Int) : 0 ≤ gcV a b := by unfold gcV; split <;> omega
theorem gcV_dvd (a b : Int) (h : gcV a b ≠ 0) : a.tmod (gcV a b) = 0 ∧ b.tmod (gcV a b) = 0 := by
  unfold gcV at h ⊢
  split at h
  · rename_i hc
    rw [if_pos hc]
    constructor
    · exact Int.tmod_eq_zero_of_dvd (Int.ofNat_dvd_left.2 (Nat.gcd_dvd_left _ _))
    · exact Int.tmod_eq_zero_of_dvd (Int.ofNat_dvd_left.2 (Nat.gcd_dvd_right _ _))
  · exact absurd rfl h
end Go.Proofs.Ytpdiojndfckmfaa.Num
end
section
set_option linter.unusedVariables false
namespace Go.Proofs.Ytpdiojndfckmfaa.Num
def ngm (a b c : Int) : Bool := ((decide (a < 0)) != (decide (b < 0))) != (decide (c < 0))
def mdN (a b c : Int) : Nat := if ngm a b c = true ∧ 0 < a.natAbs * b.natAbs % c.natAbs then a.natAbs * b.natAbs / c.natAbs + 1 else a.natAbs * b.natAbs / c.natAbs
def mdE (a b c : Int) : Int := if c = 0 then 21 else if sOk (ngm a b c) (mdN a b c) = true then 0 else 15
def mdV (a b c : Int) : Int := if mdE a b c = 0 then fl (a * b) c else 0
theorem ngm_mns {a b c : Int} (ha : a ≠ 0) (hb : b ≠ 0) (hc : c ≠ 0) : mns (a * b) c = ngm a b c := by
  unfold mns ngm
  rcases Int.lt_or_gt_of_ne ha with h1 | h1 <;> rcases Int.lt_or_gt_of_ne hb with h2 | h2 <;> rcases Int.lt_or_gt_of_ne hc with h3 | h3
  all_goals
    have e : (0 < a * b ∧ ¬ a * b < 0) ∨ (a * b < 0 ∧ ¬ 0 < a * b) := by
      first
        | (left; have := Int.mul_pos_of_neg_of_neg h1 h2; omega)
        | (left; have := Int.mul_pos h1 h2; omega)
        | (right; have := Int.mul_neg_of_neg_of_pos h1 h2; omega)
        | (right; have := Int.mul_neg_of_pos_of_neg h1 h2; omega)
    rcases e with ⟨e1, e2⟩ | ⟨e1, e2⟩
    all_goals
      first
        | (exfalso; first | (have := Int.mul_pos_of_neg_of_neg h1 h2; omega) | (have := Int.mul_pos h1 h2; omega) | (have := Int.mul_neg_of_neg_of_pos h1 h2; omega) | (have := Int.mul_neg_of_pos_of_neg h1 h2; omega))
        | (have d1 : decide (a < 0) = true := by simpa using h1
           have d2 : decide (b < 0) = true := by simpa using h2
           have d3 : (c < 0 ∧ decide (c < 0) = true ∧ decide (0 < c) = false) ∨ (0 < c ∧ decide (c < 0) = false ∧ decide (0 < c) = true) := by
             rcases Int.lt_or_gt_of_ne hc with h | h
             · exact .inl ⟨h, by simpa using h, by simp; omega⟩
             · exact .inr ⟨h, by simp; omega, by simpa using h⟩
           rcases d3 with ⟨-, d3, d4⟩ | ⟨-, d3, d4⟩ <;> simp [e1, e2, d1, d2, d3, d4])
        | (have d1 : decide (a < 0) = true := by simpa using h1
           have d2 : decide (b < 0) = false := by simp; omega
           have d3 : (c < 0 ∧ decide (c < 0) = true ∧ decide (0 < c) = false) ∨ (0 < c ∧ decide (c < 0) = false ∧ decide (0 < c) = true) := by
             rcases Int.lt_or_gt_of_ne hc with h | h
             · exact .inl ⟨h, by simpa using h, by simp; omega⟩
             · exact .inr ⟨h, by simp; omega, by simpa using h⟩
           rcases d3 with ⟨-, d3, d4⟩ | ⟨-, d3, d4⟩ <;> simp [e1, e2, d1, d2, d3, d4])
        | (have d1 : decide (a < 0) = false := by simp; omega
           have d2 : decide (b < 0) = true := by simpa using h2
           have d3 : (c < 0 ∧ decide (c < 0) = true ∧ decide (0 < c) = false) ∨ (0 < c ∧ decide (c < 0) = false ∧ decide (0 < c) = true) := by
             rcases Int.lt_or_gt_of_ne hc with h | h
             · exact .inl ⟨h, by simpa using h, by simp; omega⟩
             · exact .inr ⟨h, by simp; omega, by simpa using h⟩
           rcases d3 with ⟨-, d3, d4⟩ | ⟨-, d3, d4⟩ <;> simp [e1, e2, d1, d2, d3, d4])
        | (have d1 : decide (a < 0) = false := by simp; omega
           have d2 : decide (b < 0) = false := by simp; omega
           have d3 : (c < 0 ∧ decide (c < 0) = true ∧ decide (0 < c) = false) ∨ (0 < c ∧ decide (c < 0) = false ∧ decide (0 < c) = true) := by
             rcases Int.lt_or_gt_of_ne hc with h | h
             · exact .inl ⟨h, by simpa using h, by simp; omega⟩
             · exact .inr ⟨h, by simp; omega, by simpa using h⟩
           rcases d3 with ⟨-, d3, d4⟩ | ⟨-, d3, d4⟩ <;> simp [e1, e2, d1, d2, d3, d4])
theorem fl_zero (c : Int) (hc : c ≠ 0) : fl 0 c = 0 := by
  rcases Int.lt_or_gt_of_ne hc with h | h
  · exact fl_neg h (by simp) (by simp; omega)
  · exact fl_pos h (by simp) (by simp; omega)
theorem fl_md (a b c : Int) (hc : c ≠ 0) : fl (a * b) c = if ngm a b c = true then -(mdN a b c : Int) else mdN a b c := by
  by_cases ha : a = 0
  · subst ha
    have e : mdN 0 b c = 0 := by unfold mdN; simp
    rw [Int.zero_mul, fl_zero c hc, e]; simp
  · by_cases hb : b = 0
    · subst hb
      have e : mdN a 0 c = 0 := by unfold mdN; simp
      rw [Int.mul_zero, fl_zero c hc, e]; simp
    · have e : mdN a b c = fQ (a * b) c := by unfold mdN fQ; rw [ngm_mns ha hb hc, Int.natAbs_mul]
      rw [fl_of_fQ _ _ hc, e, ngm_mns ha hb hc]
theorem md_ok {a b c : Int} (hc : c ≠ 0) : sOk (ngm a b c) (mdN a b c) = true ↔ I64 (fl (a * b) c) := by
  rw [fl_md a b c hc]
  unfold sOk I64
  cases ngm a b c <;> simp <;> omega
theorem md_val {a b c : Int} (hc : c ≠ 0) (h : sOk (ngm a b c) (mdN a b c) = true) : sVal (ngm a b c) (mdN a b c) = fl (a * b) c := by
  rw [fl_md a b c hc]; unfold sVal; rw [if_pos h]
theorem mdE_eq (a b c : Int) : mdE a b c = if c = 0 then 21 else if -9223372036854775808 ≤ fl (a * b) c ∧ fl (a * b) c ≤ 9223372036854775807 then 0 else 15 := by
  unfold mdE
  by_cases hc : c = 0
  · rw [if_pos hc, if_pos hc]
  · rw [if_neg hc, if_neg hc]
    have : _ ↔ (-9223372036854775808 ≤ fl (a * b) c ∧ fl (a * b) c ≤ 9223372036854775807) := md_ok (a := a) (b := b) hc
    by_cases h : sOk (ngm a b c) (mdN a b c) = true
    · rw [if_pos h, if_pos (this.1 h)]
    · rw [if_neg h, if_neg (fun x => h (this.2 x))]
theorem md_comm (a b c : Int) : mdE a b c = mdE b a c ∧ mdV a b c = mdV b a c := by
  have e : mdE a b c = mdE b a c := by rw [mdE_eq, mdE_eq, Int.mul_comm a b]
  exact ⟨e, by unfold mdV; rw [e, Int.mul_comm a b]⟩
theorem fl_one (a b : Int) (hb : b ≠ 0) : fl (a * b) b = a := by
  rcases Int.lt_or_gt_of_ne hb with h | h
  · exact fl_neg h (by rw [Int.mul_comm]; omega) (by rw [Int.mul_comm]; omega)
  · exact fl_pos h (by rw [Int.mul_comm]; omega) (by rw [Int.mul_comm]; omega)
theorem md_one (a b : Int) (ha : I64 a) : mdE a 1 b = chk a b ∧ mdV a 1 b = if chk a b = 0 then fl a b else 0 := by
  have e : mdE a 1 b = chk a b := by
    rw [mdE_eq, Int.mul_one]
    unfold chk
    by_cases hb : b = 0
    · rw [if_pos hb, if_pos hb]
    · rw [if_neg hb, if_neg hb]
      by_cases ho : a = -9223372036854775808 ∧ b = -1
      · rw [if_pos ho, if_neg]
        obtain ⟨rfl, rfl⟩ := ho
        decide
      · have h := fl_range a b ha hb ho
        unfold I64 at h
        rw [if_neg ho, if_pos h]
  refine ⟨e, ?_⟩
  unfold mdV; rw [e, Int.mul_one]
theorem md_same (a b : Int) (ha : I64 a) (hb : b ≠ 0) : mdE a b b = 0 ∧ mdV a b b = a := by
  have e : mdE a b b = 0 := by unfold I64 at ha; rw [mdE_eq, fl_one a b hb, if_neg hb, if_pos ha]
  exact ⟨e, by unfold mdV; rw [e, if_pos rfl, fl_one a b hb]⟩
theorem md_zero (a b : Int) : mdE a b 0 = 21 ∧ mdV a b 0 = 0 := by
  have e : mdE a b 0 = 21 := by unfold mdE; rw [if_pos rfl]
  exact ⟨e, by unfold mdV; rw [e]; rfl⟩
theorem mdN_big {a b c : Int} (hc : c ≠ 0) (h : c.natAbs ≤ a.natAbs * b.natAbs / 18446744073709551616) : mdE a b c = 15 ∧ mdV a b c = 0 := by
  have hq : 18446744073709551616 ≤ a.natAbs * b.natAbs / c.natAbs := by
    rw [Nat.le_div_iff_mul_le (by omega)]
    have := Nat.div_add_mod (a.natAbs * b.natAbs) 18446744073709551616
    omega
  have hn : 18446744073709551616 ≤ mdN a b c := by unfold mdN; split <;> omega
  have e : mdE a b c = 15 := by
    unfold mdE; rw [if_neg hc, if_neg]
    unfold sOk; split <;> simp <;> omega
  exact ⟨e, by unfold mdV; rw [e]; rfl⟩
end Go.Proofs.Ytpdiojndfckmfaa.Num
end
section
set_option linter.unusedVariables false
namespace Go.Proofs.Ytpdiojndfckmfaa.Geo
def nearP (x y : Int) : Bool := decide (-2097152 ≤ x) && decide (x ≤ 2097152) && decide (-2097152 ≤ y) && decide (y ≤ 2097152)
def nearL (l : List (Int × Int)) : Bool := l.all fun p => nearP p.1 p.2
theorem nearP_iff (x y : Int) : nearP x y = true ↔ (-2097152 ≤ x ∧ x ≤ 2097152 ∧ -2097152 ≤ y ∧ y ≤ 2097152) := by
  unfold nearP; simp [and_assoc]
theorem near_step {l : List (Int × Int)} {k : Nat} (h : k < l.length) (h0 : nearL (l.take k) = true) (h1 : nearP l[k].1 l[k].2 = true) : nearL (l.take (k + 1)) = true := by
  unfold nearL at *
  rw [List.take_succ_eq_append_getElem h, List.all_append, h0]
  simp [h1]
theorem near_fail {l : List (Int × Int)} {k : Nat} (h : k < l.length) (h1 : nearP l[k].1 l[k].2 = false) : nearL l = false := by
  unfold nearL
  rw [List.all_eq_false]
  exact ⟨l[k], List.getElem_mem h, by simp [h1]⟩
theorem nearP_cases (x y : Int) : (nearP x y = true ∧ -2097152 ≤ x ∧ x ≤ 2097152 ∧ -2097152 ≤ y ∧ y ≤ 2097152) ∨ (nearP x y = false ∧ (x < -2097152 ∨ (-2097152 ≤ x ∧ 2097152 < x) ∨ (-2097152 ≤ x ∧ x ≤ 2097152 ∧ y < -2097152) ∨ (-2097152 ≤ x ∧ x ≤ 2097152 ∧ -2097152 ≤ y ∧ 2097152 < y))) := by
  by_cases h : nearP x y = true
  · exact .inl ⟨h, (nearP_iff x y).1 h⟩
  · refine .inr ⟨by simpa using h, ?_⟩
    have : ¬ (-2097152 ≤ x ∧ x ≤ 2097152 ∧ -2097152 ≤ y ∧ y ≤ 2097152) := fun x' => h ((nearP_iff x y).2 x')
    omega
/-- twice the area -/
def tw (ax ay bx by_ cx cy : Int) : Int := (bx - ax) * (cy - ay) - (by_ - ay) * (cx - ax)
/-- the cross product and the scalar product of the vectors from a to b and from c to d -/
def cr (ax ay bx by_ cx cy dx dy : Int) : Int := (bx - ax) * (dy - cy) - (by_ - ay) * (dx - cx)
def dt (ax ay bx by_ cx cy dx dy : Int) : Int := (bx - ax) * (dx - cx) + (by_ - ay) * (dy - cy)
theorem tw_cr (ax ay bx by_ cx cy : Int) : cr ax ay bx by_ ax ay cx cy = tw ax ay bx by_ cx cy := rfl
/-- a near point -/
def Nr (x y : Int) : Prop := -2097152 ≤ x ∧ x ≤ 2097152 ∧ -2097152 ≤ y ∧ y ≤ 2097152
theorem near3_iff (ax ay bx by_ cx cy : Int) : nearL [(ax, ay), (bx, by_), (cx, cy)] = true ↔ Nr ax ay ∧ Nr bx by_ ∧ Nr cx cy := by
  unfold nearL; simp only [List.all_cons, List.all_nil, Bool.and_true, Bool.and_eq_true, nearP_iff]; unfold Nr; exact Iff.rfl
theorem near4_iff (ax ay bx by_ cx cy dx dy : Int) : nearL [(ax, ay), (bx, by_), (cx, cy), (dx, dy)] = true ↔ Nr ax ay ∧ Nr bx by_ ∧ Nr cx cy ∧ Nr dx dy := by
  unfold nearL; simp only [List.all_cons, List.all_nil, Bool.and_true, Bool.and_eq_true, nearP_iff]; unfold Nr; exact Iff.rfl
/-- what Twice, Side return -/
def twF (ax ay bx by_ cx cy : Int) : Int := if nearL [(ax, ay), (bx, by_), (cx, cy)] = true then tw ax ay bx by_ cx cy else 0
def sgn (n : Int) : Int := if 0 < n then 1 else if n < 0 then -1 else 0
end Go.Proofs.Ytpdiojndfckmfaa.Geo
end
section
set_option linter.unusedVariables false
namespace Go.Proofs.Ytpdiojndfckmfaa.Cut
open Num Geo
theorem near2_iff (ax ay bx by_ : Int) : nearL [(ax, ay), (bx, by_)] = true ↔ Nr ax ay ∧ Nr bx by_ := by
  unfold nearL; simp only [List.all_cons, List.all_nil, Bool.and_true, Bool.and_eq_true, nearP_iff]; unfold Nr; exact Iff.rfl
/-- the error of AtX -/
def atE (ax ay bx by_ v : Int) : Int :=
  if nearL [(ax, ay), (bx, by_)] = true then (if ax = bx then 1 else if (v < ax ∧ v < bx) ∨ (ax < v ∧ bx < v) then 7 else 0) else 2
/-- the coordinate at which the segment from a to b has X = v -/
def atR (ax ay bx by_ v : Int) : Int := ay + rnd ((by_ - ay) * (v - ax)) (bx - ax)
/-- what AtX returns -/
def atV (ax ay bx by_ v : Int) : Int := if atE ax ay bx by_ v = 0 then atR ax ay bx by_ v else 0
theorem at_cases (ax ay bx by_ v : Int) :
    (nearL [(ax, ay), (bx, by_)] = false ∧ atE ax ay bx by_ v = 2 ∧ atV ax ay bx by_ v = 0) ∨
    (nearL [(ax, ay), (bx, by_)] = true ∧ ax = bx ∧ atE ax ay bx by_ v = 1 ∧ atV ax ay bx by_ v = 0) ∨
    (nearL [(ax, ay), (bx, by_)] = true ∧ ax ≠ bx ∧ v < ax ∧ v < bx ∧ atE ax ay bx by_ v = 7 ∧ atV ax ay bx by_ v = 0) ∨
    (nearL [(ax, ay), (bx, by_)] = true ∧ ax ≠ bx ∧ ax < v ∧ bx < v ∧ atE ax ay bx by_ v = 7 ∧ atV ax ay bx by_ v = 0) ∨
    (nearL [(ax, ay), (bx, by_)] = true ∧ ax < bx ∧ ax ≤ v ∧ v ≤ bx ∧ atE ax ay bx by_ v = 0 ∧ atV ax ay bx by_ v = atR ax ay bx by_ v) ∨
    (nearL [(ax, ay), (bx, by_)] = true ∧ bx < ax ∧ bx ≤ v ∧ v ≤ ax ∧ atE ax ay bx by_ v = 0 ∧ atV ax ay bx by_ v = atR ax ay bx by_ v) := by
  unfold atV
  cases hn : nearL [(ax, ay), (bx, by_)]
  · refine .inl ⟨rfl, ?_⟩
    have : atE ax ay bx by_ v = 2 := by unfold atE; rw [hn]; rfl
    rw [this]; exact ⟨rfl, rfl⟩
  · by_cases he : ax = bx
    · have : atE ax ay bx by_ v = 1 := by unfold atE; rw [hn, if_pos rfl, if_pos he]
      rw [this]; exact .inr (.inl ⟨rfl, he, rfl, rfl⟩)
    · by_cases h1 : v < ax ∧ v < bx
      · have : atE ax ay bx by_ v = 7 := by unfold atE; rw [hn, if_pos rfl, if_neg he, if_pos (.inl h1)]
        rw [this]; exact .inr (.inr (.inl ⟨rfl, he, h1.1, h1.2, rfl, rfl⟩))
      · by_cases h2 : ax < v ∧ bx < v
        · have : atE ax ay bx by_ v = 7 := by unfold atE; rw [hn, if_pos rfl, if_neg he, if_pos (.inr h2)]
          rw [this]; exact .inr (.inr (.inr (.inl ⟨rfl, he, h2.1, h2.2, rfl, rfl⟩)))
        · have : atE ax ay bx by_ v = 0 := by unfold atE; rw [hn, if_pos rfl, if_neg he, if_neg (by omega)]
          rw [this]
          by_cases hl : ax < bx
          · exact .inr (.inr (.inr (.inr (.inl ⟨rfl, hl, by omega, by omega, rfl, rfl⟩))))
          · exact .inr (.inr (.inr (.inr (.inr ⟨rfl, by omega, by omega, by omega, rfl, rfl⟩))))
/-- a number a between 0 and d along, times n, divided by d: at most n far from 0 -/
theorem rnd_bound {n k d M : Int} (hd : d ≠ 0) (hn : -M ≤ n ∧ n ≤ M) (hk : (0 ≤ k ∧ k ≤ d) ∨ (d ≤ k ∧ k ≤ 0)) : -M ≤ rnd (n * k) d ∧ rnd (n * k) d ≤ M := by
  unfold rnd
  have hM : 0 ≤ M := by omega
  rcases hk with hk | hk
  · have hd' : 0 < d := by omega
    obtain ⟨s1, s2⟩ := fl_spec_pos (2 * (n * k) + d) (b := 2 * d) (by omega)
    generalize fl (2 * (n * k) + d) (2 * d) = q at *
    have b1 : n * k ≤ M * d := Int.le_trans (Int.mul_le_mul_of_nonneg_right hn.2 hk.1) (Int.mul_le_mul_of_nonneg_left hk.2 hM)
    have b2 : -(M * d) ≤ n * k := by
      have h1 : (-M) * k ≤ n * k := Int.mul_le_mul_of_nonneg_right hn.1 hk.1
      have h2 : M * k ≤ M * d := Int.mul_le_mul_of_nonneg_left hk.2 hM
      have h3 : (-M) * k = -(M * k) := Int.neg_mul _ _
      omega
    have e : 2 * d * q = 2 * (d * q) := by rw [Int.mul_assoc]
    constructor
    · apply Int.le_of_lt_add_one
      have : d * (-M) < d * (q + 1) := by rw [Int.mul_add, Int.mul_one, Int.mul_neg, Int.mul_comm d M]; omega
      exact Int.lt_of_mul_lt_mul_left this (by omega)
    · apply Int.le_of_lt_add_one
      have : d * q < d * (M + 1) := by rw [Int.mul_add, Int.mul_one, Int.mul_comm d M]; omega
      exact Int.lt_of_mul_lt_mul_left this (by omega)
  · have hd' : d < 0 := by omega
    obtain ⟨s1, s2⟩ := fl_spec_neg (2 * (n * k) + d) (b := 2 * d) (by omega)
    generalize fl (2 * (n * k) + d) (2 * d) = q at *
    have b1 : n * k ≤ -(M * d) := by
      have h1 : n * k ≤ (-M) * k := Int.mul_le_mul_of_nonpos_right hn.1 hk.2
      have h2 : M * d ≤ M * k := Int.mul_le_mul_of_nonneg_left hk.1 hM
      have h3 : (-M) * k = -(M * k) := Int.neg_mul _ _
      omega
    have b2 : M * d ≤ n * k := by
      have h1 : M * k ≤ n * k := Int.mul_le_mul_of_nonpos_right hn.2 hk.2
      have h2 : M * d ≤ M * k := Int.mul_le_mul_of_nonneg_left hk.1 hM
      omega
    have e : 2 * d * q = 2 * (d * q) := by rw [Int.mul_assoc]
    constructor
    · apply Int.le_of_lt_add_one
      have : (-d) * (-M) < (-d) * (q + 1) := by rw [Int.mul_add, Int.mul_one, Int.neg_mul_neg, Int.neg_mul, Int.mul_comm d M]; omega
      exact Int.lt_of_mul_lt_mul_left this (by omega)
    · apply Int.le_of_lt_add_one
      have : (-d) * q < (-d) * (M + 1) := by rw [Int.mul_add, Int.mul_one, Int.neg_mul, Int.neg_mul, Int.mul_comm d M]; omega
      exact Int.lt_of_mul_lt_mul_left this (by omega)
/-- the other direction -/
theorem fl_neg_neg (a b : Int) (hb : b ≠ 0) : fl (-a) (-b) = fl a b := by
  by_cases h : 0 < b
  · obtain ⟨s1, s2⟩ := fl_spec_pos a h
    refine fl_neg (by omega) ?_ ?_ <;> rw [Int.neg_mul] <;> omega
  · obtain ⟨s1, s2⟩ := fl_spec_neg a (b := b) (by omega)
    refine fl_pos (by omega) ?_ ?_ <;> rw [Int.neg_mul] <;> omega
theorem fl_add (a b k : Int) (hb : b ≠ 0) : fl (a + b * k) b = fl a b + k := by
  by_cases h : 0 < b
  · obtain ⟨s1, s2⟩ := fl_spec_pos a h
    refine fl_pos h ?_ ?_ <;> rw [Int.mul_add] <;> omega
  · obtain ⟨s1, s2⟩ := fl_spec_neg a (b := b) (by omega)
    refine fl_neg (by omega) ?_ ?_ <;> rw [Int.mul_add] <;> omega
theorem atR_back (ax ay bx by_ v : Int) (h : ax ≠ bx) : atR bx by_ ax ay v = atR ax ay bx by_ v := by
  unfold atR rnd
  have e : 2 * ((ay - by_) * (v - bx)) + (ax - bx) = -((2 * ((by_ - ay) * (v - ax)) + (bx - ax)) + (2 * (bx - ax)) * (-(by_ - ay))) + 0 := by grind
  have e2 : 2 * (ax - bx) = -(2 * (bx - ax)) := by omega
  rw [e, Int.add_zero, e2, fl_neg_neg _ _ (by omega), fl_add _ _ _ (by omega)]
  omega
theorem at_back (ax ay bx by_ v : Int) : atE bx by_ ax ay v = atE ax ay bx by_ v ∧ atV bx by_ ax ay v = atV ax ay bx by_ v := by
  have hn : nearL [(bx, by_), (ax, ay)] = nearL [(ax, ay), (bx, by_)] := by simp [nearL, Bool.and_comm]
  rcases at_cases ax ay bx by_ v with h | h | h | h | h | h <;> rcases at_cases bx by_ ax ay v with g | g | g | g | g | g <;> rw [hn] at g
  all_goals first
    | (exact ⟨by omega, by omega⟩)
    | (exact absurd (h.1.symm.trans g.1) (by decide))
    | (exact absurd (g.1.symm.trans h.1) (by decide))
    | skip
  all_goals
    have hb := atR_back ax ay bx by_ v (by omega)
    exact ⟨by omega, by omega⟩
end Go.Proofs.Ytpdiojndfckmfaa.Cut
end
section
set_option linter.unusedVariables false
namespace Go.Proofs.Ytpdiojndfckmfaa.Num
theorem mk_zero {a b : Int} (h : mkE a b ≠ 0) : mkN a b = 0 ∧ mkD a b = 0 := by
  unfold mkN mkD; rw [if_neg h, if_neg h]; exact ⟨rfl, rfl⟩
theorem mk_parts {a b : Int} (h : mkE a b = 0) : b ≠ 0 ∧ (mkN a b).natAbs = upq a b ∧ mkD a b = loq a b ∧ (mkN a b = if ngt a b = true then -(upq a b : Int) else upq a b) := by
  have hb : b ≠ 0 := by intro hb; unfold mkE at h; rw [if_pos hb] at h; cases h
  have ho : mkOk a b = true := by
    unfold mkE at h; rw [if_neg hb] at h
    cases e : mkOk a b
    · rw [e] at h; simp at h
    · rfl
  have ho' := ho
  unfold mkOk at ho'
  rw [Bool.and_eq_true] at ho'
  have e1 : mkN a b = if ngt a b = true then -(upq a b : Int) else upq a b := by unfold mkN sVal; rw [if_pos h, if_pos ho'.1]
  have e2 : mkD a b = loq a b := by unfold mkD sVal; rw [if_pos h, if_pos ho'.2]; rfl
  refine ⟨hb, ?_, e2, e1⟩
  rw [e1]; split <;> omega
theorem mk_vld {a b : Int} (h : mkE a b = 0) : vld (mkN a b) (mkD a b) = true := by
  obtain ⟨hb, e1, e2, -⟩ := mk_parts h
  have hp := loq_pos (a := a) hb
  have hc := coprime_q (a := a) hb
  have e3 : (mkD a b).natAbs = loq a b := by omega
  unfold vld gd
  rw [e1, e3, hc]
  simp; omega
theorem mk_range {a b : Int} (h : mkE a b = 0) (h1 : I64 a) (h2 : I64 b) : I64 (mkN a b) ∧ I64 (mkD a b) := by
  obtain ⟨hb, e1, e2, e3⟩ := mk_parts h
  have hu := upq_le a b
  have hl := loq_le a b
  unfold I64 at *
  have hN : mkN a b ≤ 9223372036854775807 ∧ mkD a b ≤ 9223372036854775807 := by
    have ho : mkOk a b = true := by
      unfold mkE at h; rw [if_neg hb] at h
      cases e : mkOk a b
      · rw [e] at h; simp at h
      · rfl
    unfold mkOk sOk at ho
    rw [Bool.and_eq_true] at ho
    obtain ⟨o1, o2⟩ := ho
    rw [e3, e2]
    simp at o2
    refine ⟨?_, by omega⟩
    cases hn : ngt a b
    · rw [hn] at o1; simp at o1; rw [if_neg (by simp)]; omega
    · rw [if_pos rfl]; omega
  omega
theorem mk_scaled {N D m : Int} (hv : vld N D = true) (h1 : 1 ≤ m) (h2 : m ≤ 1000) (n1 : -1099511627776 ≤ N) (n2 : N ≤ 1099511627776) (d2 : D ≤ 1099511627776) :
    mkE (-m * N) (-m * D) = 0 ∧ mkN (-m * N) (-m * D) = N ∧ mkD (-m * N) (-m * D) = D := by
  have d1 := vld_pos hv
  have hg : Nat.gcd N.natAbs D.natAbs = 1 := by
    unfold vld gd at hv
    rw [Bool.and_eq_true] at hv
    have := hv.2
    simp at this
    exact_mod_cast this
  obtain ⟨M, rfl⟩ := Int.eq_ofNat_of_zero_le (show 0 ≤ m by omega)
  have a1 : (-(M : Int) * N).natAbs = M * N.natAbs := by rw [Int.natAbs_mul]; congr 1; omega
  have a2 : (-(M : Int) * D).natAbs = M * D.natAbs := by rw [Int.natAbs_mul]; congr 1; omega
  have hM : 0 < M := by omega
  have g : gd (-(M : Int) * N) (-(M : Int) * D) = M := by unfold gd; rw [a1, a2, Nat.gcd_mul_left, hg, Nat.mul_one]
  have u : upq (-(M : Int) * N) (-(M : Int) * D) = N.natAbs := by unfold upq; rw [g, a1, Nat.mul_div_cancel_left _ hM]
  have l : loq (-(M : Int) * N) (-(M : Int) * D) = D.natAbs := by unfold loq; rw [g, a2, Nat.mul_div_cancel_left _ hM]
  have hMD : 0 < (M : Int) * D := Int.mul_pos (by omega) d1
  have eD : -(M : Int) * D = -((M : Int) * D) := Int.neg_mul _ _
  have eN : -(M : Int) * N = -((M : Int) * N) := Int.neg_mul _ _
  have ng : ngt (-(M : Int) * N) (-(M : Int) * D) = decide (N ≤ 0) := by
    unfold ngt
    have e1 : decide (-(M : Int) * D < 0) = true := by rw [eD]; simp; exact hMD
    rw [e1]
    by_cases hn : 0 < N
    · have : 0 < (M : Int) * N := Int.mul_pos (by omega) hn
      have e2 : decide (-(M : Int) * N < 0) = true := by rw [eN]; simp; exact this
      have e3 : decide (N ≤ 0) = false := by simp; omega
      rw [e2, e3]; rfl
    · have : (M : Int) * N ≤ 0 := Int.mul_nonpos_of_nonneg_of_nonpos (by omega) (by omega)
      have e2 : decide (-(M : Int) * N < 0) = false := by rw [eN]; simp; exact this
      have e3 : decide (N ≤ 0) = true := by simp; omega
      rw [e2, e3]; rfl
  have hb : -(M : Int) * D ≠ 0 := by rw [eD]; omega
  have hok : mkOk (-(M : Int) * N) (-(M : Int) * D) = true := by
    unfold mkOk sOk; rw [u, l, ng]
    simp only [Bool.and_eq_true]
    constructor
    · split <;> simp <;> omega
    · simp; omega
  have hE : mkE (-(M : Int) * N) (-(M : Int) * D) = 0 := by unfold mkE; rw [if_neg hb, if_pos hok]
  obtain ⟨-, -, e2, e1⟩ := mk_parts hE
  refine ⟨hE, ?_, ?_⟩
  · rw [e1, u, ng]
    by_cases hn : N ≤ 0
    · rw [if_pos (by simpa using hn)]; omega
    · rw [if_neg (by simpa using hn)]; omega
  · rw [e2, l]; omega
theorem scale_in {N m : Int} (h1 : 1 ≤ m) (h2 : m ≤ 1000) (n1 : -1099511627776 ≤ N) (n2 : N ≤ 1099511627776) : -1099511627776000 ≤ -m * N ∧ -m * N ≤ 1099511627776000 := by
  have e : -m * N = -(m * N) := Int.neg_mul _ _
  rw [e]
  rcases Int.lt_or_le N 0 with h | h
  · have a1 : m * N ≤ 0 := Int.mul_nonpos_of_nonneg_of_nonpos (by omega) (by omega)
    have a2 : m * (-N) ≤ 1000 * 1099511627776 := Int.mul_le_mul h2 (by omega) (by omega) (by omega)
    rw [Int.mul_neg] at a2
    omega
  · have a1 : 0 ≤ m * N := Int.mul_nonneg (by omega) h
    have a2 : m * N ≤ 1000 * 1099511627776 := Int.mul_le_mul h2 n2 h (by omega)
    omega
end Go.Proofs.Ytpdiojndfckmfaa.Num
end
section
set_option linter.unusedVariables false
namespace Go.Proofs.Ytpdiojndfckmfaa.Num
theorem sgn_neg {x : Int} (h : x < 0) : sgnI x = -1 := by unfold sgnI; rw [if_pos h]
theorem sgn_pos {x : Int} (h : 0 < x) : sgnI x = 1 := by unfold sgnI; rw [if_neg (by omega), if_pos h]
theorem sgn_zero : sgnI 0 = 0 := rfl
theorem cf_parts (a : Int) {d : Int} (h : 0 < d) : 0 ≤ a - d * fl a d ∧ a - d * fl a d < d := by
  have := fl_spec_pos a h; omega
theorem cf_lt {an ad bn bd : Int} (ha : 0 < ad) (hb : 0 < bd) (h : fl an ad < fl bn bd) : an * bd < bn * ad := by
  have h1 := (fl_spec_pos an ha).2
  have h2 := (fl_spec_pos bn hb).1
  generalize fl an ad = p at *
  generalize fl bn bd = q at *
  have h3 : an * bd < (ad * p + ad) * bd := Int.mul_lt_mul_of_pos_right h1 hb
  have h4 : bd * q * ad ≤ bn * ad := Int.mul_le_mul_of_nonneg_right h2 (by omega)
  have h5 : ad * p + ad ≤ ad * q := by
    have : ad * (p + 1) ≤ ad * q := Int.mul_le_mul_of_nonneg_left (by omega) (by omega)
    rw [Int.mul_add, Int.mul_one] at this; exact this
  have h6 : (ad * p + ad) * bd ≤ ad * q * bd := Int.mul_le_mul_of_nonneg_right h5 (by omega)
  have e : ad * q * bd = bd * q * ad := by rw [Int.mul_comm ad q, Int.mul_comm bd q, Int.mul_right_comm]
  omega
theorem cf_ne {an ad bn bd : Int} (ha : 0 < ad) (hb : 0 < bd) (h : fl an ad ≠ fl bn bd) : sgnI (fl an ad - fl bn bd) = sgnI (an * bd - bn * ad) := by
  rcases Int.lt_or_gt_of_ne h with h | h
  · have := cf_lt ha hb h
    rw [sgn_neg (by omega), sgn_neg (by omega)]
  · have := cf_lt hb ha h
    rw [sgn_pos (by omega), sgn_pos (by omega)]
theorem cf_next {an ad bn bd p : Int} : bd * (an - ad * p) - ad * (bn - bd * p) = an * bd - bn * ad := by
  rw [Int.mul_sub, Int.mul_sub, Int.mul_comm bd an, Int.mul_comm ad bn, ← Int.mul_assoc, ← Int.mul_assoc, Int.mul_comm bd ad]
  omega
theorem cf_zero {r s ad bd : Int} (ha : 0 < ad) (hb : 0 < bd) (hr : 0 ≤ r) (hs : 0 ≤ s) (h : r = 0 ∨ s = 0) : sgnI (r - s) = sgnI (bd * r - ad * s) := by
  rcases h with rfl | rfl
  · rw [Int.mul_zero]
    rcases Int.lt_or_eq_of_le hs with h | h
    · have := Int.mul_pos ha h
      rw [sgn_neg (by omega), sgn_neg (by omega)]
    · subst h; simp
  · rw [Int.mul_zero]
    rcases Int.lt_or_eq_of_le hr with h | h
    · have := Int.mul_pos hb h
      rw [sgn_pos (by omega), sgn_pos (by omega)]
    · subst h; simp
theorem sgn_anti (x : Int) : sgnI (-x) = -sgnI x := by
  unfold sgnI
  repeat' split
  all_goals omega
theorem cmpF_anti (an ad bn bd : Int) : cmpF bn bd an ad = -cmpF an ad bn bd := by
  unfold cmpF
  by_cases h : vld an ad = true ∧ vld bn bd = true
  · rw [if_pos h, if_pos ⟨h.2, h.1⟩, ← sgn_anti]; congr 1; omega
  · rw [if_neg h, if_neg (fun x => h ⟨x.2, x.1⟩)]; rfl
theorem cmpF_same (an ad : Int) : cmpF an ad an ad = 0 := by
  unfold cmpF; split
  · rw [Int.sub_self]; rfl
  · rfl
theorem cmpF_range (an ad bn bd : Int) : -1 ≤ cmpF an ad bn bd ∧ cmpF an ad bn bd ≤ 1 := by
  unfold cmpF sgnI
  repeat' split
  all_goals omega
end Go.Proofs.Ytpdiojndfckmfaa.Num
end
section
set_option linter.unusedVariables false
namespace Go.Proofs.Ytpdiojndfckmfaa.Cut
open Num Geo
theorem mkE_small {a b : Int} (hb : b ≠ 0) (a1 : -4611686018427387904 ≤ a) (a2 : a ≤ 4611686018427387904) (b1 : -4611686018427387904 ≤ b) (b2 : b ≤ 4611686018427387904) : mkE a b = 0 := by
  unfold mkE
  rw [if_neg hb]
  have hu := upq_le a b
  have hl := loq_le a b
  have : mkOk a b = true := by
    unfold mkOk sOk
    rw [Bool.and_eq_true]
    constructor
    · split <;> simp <;> omega
    · simp; omega
  rw [if_pos this]
theorem mk_eq {a b : Int} (h : mkE a b = 0) : mkN a b * b = a * mkD a b ∧ 0 < mkD a b := by
  obtain ⟨hb, e1, e2, e3⟩ := mk_parts h
  have hp := loq_pos (a := a) hb
  refine ⟨?_, by omega⟩
  have k1 : a.natAbs = gd a b * upq a b := by
    unfold upq; exact (Nat.mul_div_cancel' (Nat.gcd_dvd_left _ _)).symm
  have k2 : b.natAbs = gd a b * loq a b := by
    unfold loq; exact (Nat.mul_div_cancel' (Nat.gcd_dvd_right _ _)).symm
  have k : upq a b * b.natAbs = a.natAbs * loq a b := by rw [k1, k2, Nat.mul_comm (gd a b) (upq a b), Nat.mul_assoc]
  have kk : (upq a b : Int) * (b.natAbs : Int) = (a.natAbs : Int) * (loq a b : Int) := by rw [← Int.natCast_mul, ← Int.natCast_mul, k]
  rw [e3, e2]
  generalize (upq a b : Int) = u at *
  generalize (loq a b : Int) = l at *
  unfold ngt
  by_cases ha : a < 0 <;> by_cases hb' : b < 0
  · rw [if_neg (by simp [ha, hb'])]
    rw [show (a.natAbs : Int) = -a by omega, show (b.natAbs : Int) = -b by omega] at kk
    rw [Int.mul_neg, Int.neg_mul] at kk; omega
  · rw [if_pos (by simp [ha, hb'])]
    rw [show (a.natAbs : Int) = -a by omega, show (b.natAbs : Int) = b by omega] at kk
    rw [Int.neg_mul] at *; omega
  · rw [if_pos (by simp [ha, hb'])]
    rw [show (a.natAbs : Int) = a by omega, show (b.natAbs : Int) = -b by omega] at kk
    rw [Int.mul_neg] at kk; rw [Int.neg_mul]; omega
  · rw [if_neg (by simp [ha, hb'])]
    rw [show (a.natAbs : Int) = a by omega, show (b.natAbs : Int) = b by omega] at kk
    exact kk
theorem sgn_le {x : Int} : sgnI x ≤ 0 ↔ x ≤ 0 := by unfold sgnI; repeat' split; all_goals omega
theorem sgn_ge {x : Int} : 0 ≤ sgnI x ↔ 0 ≤ x := by unfold sgnI; repeat' split; all_goals omega
theorem pos_of_ne {x : Int} (h : x ≠ 0) : 0 < x * x := by
  rcases Int.lt_or_gt_of_ne h with h | h
  · exact Int.mul_pos_of_neg_of_neg h h
  · exact Int.mul_pos h h
theorem same_sign {x y p q : Int} (hp : 0 < p) (hq : 0 < q) (h : x * p = q * y) : (x ≤ 0 ↔ y ≤ 0) ∧ (0 ≤ x ↔ 0 ≤ y) := by
  have L : ∀ {x y p q : Int}, 0 < p → 0 < q → x * p = q * y → x ≤ 0 → y ≤ 0 := by
    intro x y p q hp hq h hx
    have h1 : x * p ≤ 0 := Int.mul_nonpos_of_nonpos_of_nonneg hx (by omega)
    apply Int.not_lt.1
    intro hy
    have h2 : 0 < q * y := Int.mul_pos hq hy
    omega
  have e : y * q = p * x := by rw [Int.mul_comm y, Int.mul_comm p]; exact h.symm
  have n1 : (-x) * p = q * (-y) := by rw [Int.neg_mul, Int.mul_neg, h]
  have n2 : (-y) * q = p * (-x) := by rw [Int.neg_mul, Int.mul_neg, e]
  refine ⟨⟨L hp hq h, L hq hp e⟩, ⟨fun hx => ?_, fun hy => ?_⟩⟩
  · have := L hp hq n1 (by omega); omega
  · have := L hq hp n2 (by omega); omega
/-- two made fractions compared -/
theorem cmp_mk {a b c d : Int} (h1 : mkE a b = 0) (h2 : mkE c d = 0) :
    (cmpF (mkN a b) (mkD a b) (mkN c d) (mkD c d) ≤ 0 ↔ (a * d - c * b) * (b * d) ≤ 0) ∧ (0 ≤ cmpF (mkN a b) (mkD a b) (mkN c d) (mkD c d) ↔ 0 ≤ (a * d - c * b) * (b * d)) := by
  obtain ⟨e1, p1⟩ := mk_eq h1
  obtain ⟨e2, p2⟩ := mk_eq h2
  have v1 := mk_vld h1
  have v2 := mk_vld h2
  have hb := (mk_parts h1).1
  have hd := (mk_parts h2).1
  unfold cmpF
  rw [if_pos ⟨v1, v2⟩, sgn_le, sgn_ge]
  generalize mkN a b = N1 at *
  generalize mkD a b = D1 at *
  generalize mkN c d = N2 at *
  generalize mkD c d = D2 at *
  refine same_sign (p := (b * b) * (d * d)) (q := D1 * D2) (Int.mul_pos (pos_of_ne hb) (pos_of_ne hd)) (Int.mul_pos p1 p2) ?_
  grind
theorem le_fl_pos {a b k : Int} (hb : 0 < b) : k ≤ fl a b ↔ b * k ≤ a := by
  obtain ⟨s1, s2⟩ := fl_spec_pos a hb
  constructor
  · intro h
    have := Int.mul_le_mul_of_nonneg_left h (show 0 ≤ b by omega)
    omega
  · intro h
    apply Int.le_of_lt_add_one
    have : b * k < b * (fl a b + 1) := by rw [Int.mul_add, Int.mul_one]; omega
    exact Int.lt_of_mul_lt_mul_left this (by omega)
theorem le_fl_neg {a b k : Int} (hb : b < 0) : k ≤ fl a b ↔ a ≤ b * k := by
  rw [← fl_neg_neg a b (by omega), le_fl_pos (by omega), Int.neg_mul]
  omega
/-- k - 1/2 is reached -/
theorem le_rnd {x den k : Int} (hd : den ≠ 0) : k ≤ rnd x den ↔ 0 ≤ (2 * x - (2 * k - 1) * den) * den := by
  unfold rnd
  by_cases h : 0 < den
  · rw [le_fl_pos (by omega)]
    have e : 2 * x - (2 * k - 1) * den = 2 * x + den - 2 * den * k := by grind
    rw [e]
    generalize 2 * den * k = z
    constructor
    · intro g; exact Int.mul_nonneg (by omega) (by omega)
    · intro g
      apply Int.not_lt.1
      intro l
      have := Int.mul_neg_of_neg_of_pos (show 2 * x + den - z < 0 by omega) h
      omega
  · rw [le_fl_neg (by omega)]
    have e : 2 * x - (2 * k - 1) * den = 2 * x + den - 2 * den * k := by grind
    rw [e]
    generalize 2 * den * k = z
    constructor
    · intro g; exact Int.mul_nonneg_of_nonpos_of_nonpos (by omega) (by omega)
    · intro g
      apply Int.not_lt.1
      intro l
      have := Int.mul_neg_of_pos_of_neg (show 0 < 2 * x + den - z by omega) (show den < 0 by omega)
      omega
/-- what reached finds -/
theorem reach_pos {k d n den : Int} (hd : 0 < d) (hn : den ≠ 0) (h1 : mkE (2 * k - 1) (2 * d) = 0) (h2 : mkE n den = 0) :
    (cmpF (mkN (2 * k - 1) (2 * d)) (mkD (2 * k - 1) (2 * d)) (mkN n den) (mkD n den) ≤ 0 ↔ k ≤ rnd (d * n) den) := by
  rw [(cmp_mk h1 h2).1, le_rnd hn]
  have := (same_sign (x := -(((2 * k - 1) * den - n * (2 * d)) * (2 * d * den))) (y := (2 * (d * n) - (2 * k - 1) * den) * den) (p := 1) (q := 2 * d) (by omega) (by omega) (by grind)).2
  omega
theorem reach_neg {k d n den : Int} (hd : d < 0) (hn : den ≠ 0) (h1 : mkE (2 * k - 1) (2 * d) = 0) (h2 : mkE n den = 0) :
    (0 ≤ cmpF (mkN (2 * k - 1) (2 * d)) (mkD (2 * k - 1) (2 * d)) (mkN n den) (mkD n den) ↔ k ≤ rnd (d * n) den) := by
  rw [(cmp_mk h1 h2).2, le_rnd hn]
  exact (same_sign (x := ((2 * k - 1) * den - n * (2 * d)) * (2 * d * den)) (y := (2 * (d * n) - (2 * k - 1) * den) * den) (p := 1) (q := -(2 * d)) (by omega) (by omega) (by grind)).2
/-- what share finds -/
theorem share_law {x m q : Int} (hm : 0 < m) (hq : fl x m = q) : 0 ≤ x - q * m ∧ x - q * m < m ∧ rnd x m = if m - (x - q * m) ≤ x - q * m then q + 1 else q := by
  obtain ⟨s1, s2⟩ := fl_spec_pos x hm
  have h := rnd_of_fl x m (by omega)
  rw [hq] at s1 s2 h
  rw [Int.mul_comm q m]
  refine ⟨by omega, by omega, ?_⟩
  rw [h]
  split <;> split <;> omega
end Go.Proofs.Ytpdiojndfckmfaa.Cut
end
section
set_option linter.unusedVariables false
namespace Go.Proofs.Ytpdiojndfckmfaa.Geo
def inb (ax ay bx by_ cx cy : Int) : Bool := decide (min ax bx ≤ cx) && decide (cx ≤ max ax bx) && decide (min ay by_ ≤ cy) && decide (cy ≤ max ay by_)
def onF (ax ay bx by_ cx cy : Int) : Bool := nearL [(ax, ay), (bx, by_), (cx, cy)] && decide (tw ax ay bx by_ cx cy = 0) && inb ax ay bx by_ cx cy
theorem sq_nonneg (a : Int) : 0 ≤ a * a := by
  rcases Int.le_total 0 a with h | h
  · exact Int.mul_nonneg h h
  · exact Int.mul_nonneg_of_nonpos_of_nonpos h h
/-- v lies between 0 and u -/
theorem btw_iff (u v : Int) : v * (v - u) ≤ 0 ↔ (min 0 u ≤ v ∧ v ≤ max 0 u) := by
  constructor
  · intro h
    rcases Int.lt_or_le v 0 with hv | hv
    · have : ¬ v < u := fun h1 => by
        have := Int.mul_pos_of_neg_of_neg hv (show v - u < 0 by omega); omega
      omega
    · rcases Int.lt_or_eq_of_le hv with hv | hv
      · have : ¬ u < v := fun h1 => by
          have := Int.mul_pos hv (show 0 < v - u by omega); omega
        omega
      · omega
  · rintro ⟨h1, h2⟩
    rcases Int.lt_trichotomy v 0 with hv | hv | hv
    · exact Int.mul_nonpos_of_nonpos_of_nonneg (by omega) (by omega)
    · subst hv; rw [Int.zero_mul]; omega
    · exact Int.mul_nonpos_of_nonneg_of_nonpos (by omega) (by omega)
/-- parallel parts: both coordinates lie between, or their sum does not -/
theorem par_dot {ux uy vx vy : Int} (hc : ux * vy = uy * vx) : vx * (vx - ux) + vy * (vy - uy) ≤ 0 ↔ (vx * (vx - ux) ≤ 0 ∧ vy * (vy - uy) ≤ 0) := by
  constructor
  · intro h
    have key : (ux * ux) * (vy * (vy - uy)) = (uy * uy) * (vx * (vx - ux)) := by grind
    have s1 := sq_nonneg ux
    have s2 := sq_nonneg uy
    generalize hT : vx * (vx - ux) = T at *
    generalize hS : vy * (vy - uy) = S at *
    have z : ∀ {q : Int}, q * q = 0 → q = 0 := fun h => by rcases Int.mul_eq_zero.1 h with h | h <;> exact h
    constructor
    · apply Classical.byContradiction; intro hx
      have hT0 : 0 < T := by omega
      have hS0 : S < 0 := by omega
      have a1 : ux * ux * S ≤ 0 := Int.mul_nonpos_of_nonneg_of_nonpos s1 (by omega)
      have a2 : 0 ≤ uy * uy * T := Int.mul_nonneg s2 (by omega)
      have a3 : uy * uy * T = 0 := by omega
      have a4 : ux * ux * S = 0 := by omega
      have b1 : uy = 0 := by rcases Int.mul_eq_zero.1 a3 with h | h; exact z h; omega
      have b2 : ux = 0 := by rcases Int.mul_eq_zero.1 a4 with h | h; exact z h; omega
      subst b1
      rw [Int.sub_zero] at hS
      have := sq_nonneg vy
      omega
    · apply Classical.byContradiction; intro hx
      have hS0 : 0 < S := by omega
      have hT0 : T < 0 := by omega
      have a1 : 0 ≤ ux * ux * S := Int.mul_nonneg s1 (by omega)
      have a2 : uy * uy * T ≤ 0 := Int.mul_nonpos_of_nonneg_of_nonpos s2 (by omega)
      have a3 : uy * uy * T = 0 := by omega
      have a4 : ux * ux * S = 0 := by omega
      have b1 : uy = 0 := by rcases Int.mul_eq_zero.1 a3 with h | h; exact z h; omega
      have b2 : ux = 0 := by rcases Int.mul_eq_zero.1 a4 with h | h; exact z h; omega
      subst b2
      rw [Int.sub_zero] at hT
      have := sq_nonneg vx
      omega
  · rintro ⟨h1, h2⟩; omega
/-- the reference's test of a point of the line -/
theorem on_dot {ax ay bx by_ cx cy : Int} (hc : tw ax ay bx by_ cx cy = 0) : dt ax ay cx cy bx by_ cx cy ≤ 0 ↔ inb ax ay bx by_ cx cy = true := by
  have h : (bx - ax) * (cy - ay) = (by_ - ay) * (cx - ax) := by unfold tw at hc; omega
  have e : dt ax ay cx cy bx by_ cx cy = (cx - ax) * ((cx - ax) - (bx - ax)) + (cy - ay) * ((cy - ay) - (by_ - ay)) := by
    unfold dt
    rw [show (cx - ax) - (bx - ax) = cx - bx by omega, show (cy - ay) - (by_ - ay) = cy - by_ by omega]
  rw [e, par_dot h, btw_iff, btw_iff]
  unfold inb
  simp only [Bool.and_eq_true, decide_eq_true_eq]
  omega
end Go.Proofs.Ytpdiojndfckmfaa.Geo
end
section
set_option linter.unusedVariables false
namespace Go.Proofs.Ytpdiojndfckmfaa.Geo
def bf (ax ay bx by_ : Int) : Bool := decide (ax < bx) || (decide (ax = bx) && decide (ay < by_))
def lw (ox oy px py : Int) : Bool := decide (py < oy) || (decide (py = oy) && decide (px < ox))
def eqP (ax ay bx by_ : Int) : Bool := decide (ax = bx) && decide (ay = by_)
def lsF (ox oy ax ay bx by_ : Int) : Bool :=
  if nearL [(ox, oy), (ax, ay), (bx, by_)] = true ∧ eqP ax ay ox oy = false ∧ eqP bx by_ ox oy = false then
    (if lw ox oy ax ay = lw ox oy bx by_ then decide (0 < tw ox oy ax ay bx by_) else lw ox oy bx by_)
  else false
def qt (x y : Int) : Int := if 0 < x ∧ 0 ≤ y then 0 else if x ≤ 0 ∧ 0 < y then 1 else if x < 0 then 2 else 3
/-- the reference's order of two directions is the program's -/
theorem qt_lw {ox oy ax ay bx by_ : Int} (ha : eqP ax ay ox oy = false) (hb : eqP bx by_ ox oy = false) :
    (decide (qt (ax - ox) (ay - oy) < qt (bx - ox) (by_ - oy)) || (decide (qt (ax - ox) (ay - oy) = qt (bx - ox) (by_ - oy)) && decide (0 < tw ox oy ax ay bx by_))) = (if lw ox oy ax ay = lw ox oy bx by_ then decide (0 < tw ox oy ax ay bx by_) else lw ox oy bx by_) := by
  have ha' : ¬ (ax - ox = 0 ∧ ay - oy = 0) := by
    intro h; unfold eqP at ha; simp at ha; have := ha (by omega); omega
  have hb' : ¬ (bx - ox = 0 ∧ by_ - oy = 0) := by
    intro h; unfold eqP at hb; simp at hb; have := hb (by omega); omega
  have e1 : lw ox oy ax ay = (decide (ay - oy < 0) || (decide (ay - oy = 0) && decide (ax - ox < 0))) := by
    unfold lw
    rw [show decide (ay < oy) = decide (ay - oy < 0) by congr 1; simp; omega, show decide (ay = oy) = decide (ay - oy = 0) by congr 1; simp; omega, show decide (ax < ox) = decide (ax - ox < 0) by congr 1; simp; omega]
  have e2 : lw ox oy bx by_ = (decide (by_ - oy < 0) || (decide (by_ - oy = 0) && decide (bx - ox < 0))) := by
    unfold lw
    rw [show decide (by_ < oy) = decide (by_ - oy < 0) by congr 1; simp; omega, show decide (by_ = oy) = decide (by_ - oy = 0) by congr 1; simp; omega, show decide (bx < ox) = decide (bx - ox < 0) by congr 1; simp; omega]
  have e3 : tw ox oy ax ay bx by_ = (ax - ox) * (by_ - oy) - (ay - oy) * (bx - ox) := rfl
  rw [e1, e2, e3]
  generalize ax - ox = ux at *
  generalize ay - oy = uy at *
  generalize bx - ox = vx at *
  generalize by_ - oy = vy at *
  clear e1 e2 e3 ha hb
  have P : ∀ {p q : Int}, 0 ≤ p → 0 ≤ q → 0 ≤ p * q := fun h k => Int.mul_nonneg h k
  have P1 : ∀ {p q : Int}, 0 < p → 0 < q → 0 < p * q := fun h k => Int.mul_pos h k
  have N : ∀ {p q : Int}, p ≤ 0 → 0 ≤ q → p * q ≤ 0 := fun h k => Int.mul_nonpos_of_nonpos_of_nonneg h k
  have N' : ∀ {p q : Int}, 0 ≤ p → q ≤ 0 → p * q ≤ 0 := fun h k => Int.mul_nonpos_of_nonneg_of_nonpos h k
  have M : ∀ {p q : Int}, p ≤ 0 → q ≤ 0 → 0 ≤ p * q := fun h k => Int.mul_nonneg_of_nonpos_of_nonpos h k
  have M1 : ∀ {p q : Int}, p < 0 → q < 0 → 0 < p * q := fun h k => Int.mul_pos_of_neg_of_neg h k
  have L1 : ∀ {p q : Int}, p < 0 → 0 < q → p * q < 0 := fun h k => Int.mul_neg_of_neg_of_pos h k
  have L2 : ∀ {p q : Int}, 0 < p → q < 0 → p * q < 0 := fun h k => Int.mul_neg_of_pos_of_neg h k
  have Q : ∀ x y : Int, ¬ (x = 0 ∧ y = 0) → (qt x y = 0 ∧ 0 < x ∧ 0 ≤ y) ∨ (qt x y = 1 ∧ x ≤ 0 ∧ 0 < y) ∨ (qt x y = 2 ∧ x < 0 ∧ y ≤ 0) ∨ (qt x y = 3 ∧ 0 ≤ x ∧ y < 0) := by
    intro x y h
    unfold qt
    repeat' split
    all_goals omega
  have lt : ∀ {p q : Int}, p < q → decide (p < q) = true := fun h => decide_eq_true h
  rcases Q ux uy ha' with ⟨a1, a2, a3⟩ | ⟨a1, a2, a3⟩ | ⟨a1, a2, a3⟩ | ⟨a1, a2, a3⟩ <;> rcases Q vx vy hb' with ⟨b1, b2, b3⟩ | ⟨b1, b2, b3⟩ | ⟨b1, b2, b3⟩ | ⟨b1, b2, b3⟩ <;> rw [a1, b1]
  all_goals
    have l1 : (decide (uy < 0) || (decide (uy = 0) && decide (ux < 0))) = decide (uy < 0 ∨ (uy = 0 ∧ ux < 0)) := by simp
    have l2 : (decide (vy < 0) || (decide (vy = 0) && decide (vx < 0))) = decide (vy < 0 ∨ (vy = 0 ∧ vx < 0)) := by simp
    rw [l1, l2]
    clear l1 l2
    first
      | rw [decide_eq_true (show uy < 0 ∨ (uy = 0 ∧ ux < 0) by omega)]
      | rw [decide_eq_false (show ¬ (uy < 0 ∨ (uy = 0 ∧ ux < 0)) by omega)]
    first
      | rw [decide_eq_true (show vy < 0 ∨ (vy = 0 ∧ vx < 0) by omega)]
      | rw [decide_eq_false (show ¬ (vy < 0 ∨ (vy = 0 ∧ vx < 0)) by omega)]
  · simp
  · have h1 := P1 a2 b3
    have h2 := N' a3 b2
    have : 0 < ux * vy - uy * vx := by omega
    simp; omega
  · simp
  · simp
  · have h1 := N a2 b3
    have h2 := P1 a3 b2
    simp; omega
  · simp
  · simp
  · simp
  · simp
  · simp
  · simp
  · have h1 := M1 a2 b3
    have h2 := N a3 b2
    simp; omega
  · simp
  · simp
  · have h1 := N' a2 b3
    have h2 := M1 a3 b2
    simp; omega
  · simp
def inB (x0 y0 x1 y1 px py : Int) : Bool := decide (x0 ≤ px) && decide (px ≤ x1) && decide (y0 ≤ py) && decide (py ≤ y1)
def ovF (x0 y0 x1 y1 u0 v0 u1 v1 : Int) : Bool := decide (max x0 u0 < min x1 u1) && decide (max y0 v0 < min y1 v1)
end Go.Proofs.Ytpdiojndfckmfaa.Geo
end
section
set_option linter.unusedVariables false
namespace Go.Proofs.Ytpdiojndfckmfaa.Geo
def sq (ax ay bx by_ : Int) : Int := (bx - ax) * (bx - ax) + (by_ - ay) * (by_ - ay)
def al (ax ay bx by_ px py : Int) : Int := (bx - ax) * (px - ax) + (by_ - ay) * (py - ay)
theorem lagrange (ax ay bx by_ px py : Int) : tw ax ay bx by_ px py * tw ax ay bx by_ px py + al ax ay bx by_ px py * al ax ay bx by_ px py = sq ax ay bx by_ * sq ax ay px py := by
  unfold tw al sq; grind
def dW (T L : Nat) : Nat := T / L
def dR (T L : Nat) : Nat := T % L
def dG (T L : Nat) : Nat := Nat.gcd (T % L) L
def dN (T L : Nat) : Nat := T / L * (L / dG T L) + T % L / dG T L
/-- the fraction of T / L -/
def frN (T L : Nat) : Int := if dN T L ≤ 9223372036854775807 then (dN T L : Int) else (dW T L : Int)
def frD (T L : Nat) : Int := if dN T L ≤ 9223372036854775807 then ((L / dG T L : Nat) : Int) else 1
def dsN (ax ay bx by_ px py : Int) : Int :=
  if nearL [(ax, ay), (bx, by_), (px, py)] = true then
    (if al ax ay bx by_ px py ≤ 0 then sq ax ay px py else if sq ax ay bx by_ ≤ al ax ay bx by_ px py then sq bx by_ px py
     else frN (tw ax ay bx by_ px py * tw ax ay bx by_ px py).toNat (sq ax ay bx by_).toNat)
  else 0
def dsD (ax ay bx by_ px py : Int) : Int :=
  if nearL [(ax, ay), (bx, by_), (px, py)] = true then
    (if al ax ay bx by_ px py ≤ 0 then 1 else if sq ax ay bx by_ ≤ al ax ay bx by_ px py then 1
     else frD (tw ax ay bx by_ px py * tw ax ay bx by_ px py).toNat (sq ax ay bx by_).toNat)
  else 0
theorem abs_sq_le {a : Int} (h : -4194304 ≤ a ∧ a ≤ 4194304) : 0 ≤ a * a ∧ a * a ≤ 17592186044416 := by
  have e1 : (a * a).natAbs ≤ 4194304 * 4194304 := by
    rw [Int.natAbs_mul]; exact Nat.mul_le_mul (by omega) (by omega)
  have := sq_nonneg a
  omega
theorem sq_le {ax ay bx by_ : Int} (ha : Nr ax ay) (hb : Nr bx by_) : 0 ≤ sq ax ay bx by_ ∧ sq ax ay bx by_ ≤ 35184372088832 := by
  unfold Nr at ha hb
  have h1 := abs_sq_le (a := bx - ax) (by omega)
  have h2 := abs_sq_le (a := by_ - ay) (by omega)
  unfold sq; omega
/-- the numbers of the inner case -/
theorem mid_nums {ax ay bx by_ px py : Int} (ha : Nr ax ay) (hb : Nr bx by_) (hp : Nr px py) (h1 : 0 < al ax ay bx by_ px py) (h2 : al ax ay bx by_ px py < sq ax ay bx by_) :
    ∃ T L : Nat, tw ax ay bx by_ px py * tw ax ay bx by_ px py = (T : Int) ∧ sq ax ay bx by_ = (L : Int) ∧ 0 < L ∧ L ≤ 35184372088832 ∧ T / L < 35184372088832 := by
  obtain ⟨l0, l1⟩ := sq_le ha hb
  obtain ⟨s0, s1⟩ := sq_le ha hp
  have hl := lagrange ax ay bx by_ px py
  have ht := sq_nonneg (tw ax ay bx by_ px py)
  have hq := Int.mul_pos h1 h1
  generalize tw ax ay bx by_ px py * tw ax ay bx by_ px py = T at *
  generalize al ax ay bx by_ px py * al ax ay bx by_ px py = Q at *
  generalize sq ax ay bx by_ = L at *
  generalize sq ax ay px py = S at *
  obtain ⟨T, rfl⟩ := Int.eq_ofNat_of_zero_le ht
  obtain ⟨L, rfl⟩ := Int.eq_ofNat_of_zero_le l0
  obtain ⟨S, rfl⟩ := Int.eq_ofNat_of_zero_le s0
  refine ⟨T, L, rfl, rfl, by omega, by omega, ?_⟩
  have h3 : T < S * L := by
    have : ((L * S : Nat) : Int) = (L : Int) * (S : Int) := Int.natCast_mul _ _
    rw [Nat.mul_comm]; omega
  have h4 : T / L < S := (Nat.div_lt_iff_lt_mul (by omega)).2 h3
  omega
theorem dG_pos {T L : Nat} (h : 0 < L) : 0 < dG T L := Nat.gcd_pos_of_pos_right _ h
theorem dG_le {T L : Nat} (h : 0 < L) : dG T L ≤ L := Nat.gcd_le_right _ h
end Go.Proofs.Ytpdiojndfckmfaa.Geo
end
section
namespace Go.Proofs.Ytpdiojndfckmfaa.Geo
theorem sq_nn (ax ay bx by_ : Int) : 0 ≤ sq ax ay bx by_ := by
  unfold sq; have := sq_nonneg (bx - ax); have := sq_nonneg (by_ - ay); omega
theorem sq_zero {ax ay bx by_ : Int} (h : sq ax ay bx by_ = 0) : ax = bx ∧ ay = by_ := by
  unfold sq at h
  have h1 := sq_nonneg (bx - ax)
  have h2 := sq_nonneg (by_ - ay)
  have e1 : (bx - ax) * (bx - ax) = 0 := by omega
  have e2 : (by_ - ay) * (by_ - ay) = 0 := by omega
  rcases Int.mul_eq_zero.1 e1 with a | a <;> rcases Int.mul_eq_zero.1 e2 with b | b <;> omega
theorem sq_sym (ax ay bx by_ : Int) : sq bx by_ ax ay = sq ax ay bx by_ := by unfold sq; grind
theorem al_sym (ax ay bx by_ px py : Int) : al bx by_ ax ay px py = sq ax ay bx by_ - al ax ay bx by_ px py := by unfold sq al; grind
theorem sq_far (ax ay bx by_ px py : Int) : sq bx by_ px py = sq ax ay px py - 2 * al ax ay bx by_ px py + sq ax ay bx by_ := by unfold sq al; grind
theorem tw_sym (ax ay bx by_ px py : Int) : tw bx by_ ax ay px py * tw bx by_ ax ay px py = tw ax ay bx by_ px py * tw ax ay bx by_ px py := by unfold tw; grind
theorem inb_al {ax ay bx by_ px py : Int} (h : tw ax ay bx by_ px py = 0) : inb ax ay bx by_ px py = true ↔ sq ax ay px py ≤ al ax ay bx by_ px py := by
  rw [← on_dot h]
  have : dt ax ay px py bx by_ px py = sq ax ay px py - al ax ay bx by_ px py := by unfold dt sq al; grind
  rw [this]; omega
theorem frD_pos (T L : Nat) (h : 0 < L) : 1 ≤ frD T L := by
  have := Nat.div_pos (dG_le (T := T) h) (dG_pos h)
  unfold frD; split <;> omega
theorem frN_nn (T L : Nat) : 0 ≤ frN T L := by unfold frN; split <;> omega
theorem frN_zero {T L : Nat} (h : 0 < L) (hL : L ≤ 35184372088832) : frN T L = 0 ↔ T = 0 := by
  have hg := dG_pos (T := T) h
  have hq := Nat.div_pos (dG_le (T := T) h) (dG_pos h)
  have hd : dG T L ∣ T % L := Nat.gcd_dvd_left _ _
  have hm := Nat.mod_lt T h
  constructor
  · intro hz
    have hW : T / L = 0 := by
      unfold frN at hz
      split at hz
      · unfold dN at hz
        have hz' : T / L * (L / dG T L) + T % L / dG T L = 0 := by exact_mod_cast hz
        have h0 : T / L * (L / dG T L) = 0 := (Nat.add_eq_zero_iff.mp hz').1
        rcases Nat.mul_eq_zero.1 h0 with a | a
        · exact a
        · omega
      · unfold dW at hz; omega
    have h1 : T % L / dG T L = 0 := by
      have h2 : dN T L = T % L / dG T L := by unfold dN; rw [hW, Nat.zero_mul, Nat.zero_add]
      have hle := Nat.div_le_self (T % L) (dG T L)
      unfold frN at hz
      generalize T % L / dG T L = z at *
      split at hz <;> omega
    have h3 : T % L = 0 := by
      have := Nat.div_mul_cancel hd; rw [h1] at this; omega
    have := Nat.div_add_mod T L
    rw [hW, h3] at this; omega
  · rintro rfl
    unfold frN dN dW; simp
theorem ds_zero {ax ay bx by_ px py : Int} (hn : nearL [(ax, ay), (bx, by_), (px, py)] = true) : dsN ax ay bx by_ px py = 0 ↔ onF ax ay bx by_ px py = true := by
  obtain ⟨na, nb, np⟩ := (near3_iff _ _ _ _ _ _).mp hn
  have hs := sq_le na nb
  unfold dsN onF
  rw [if_pos hn, hn]
  simp only [Bool.true_and, Bool.and_eq_true, decide_eq_true_eq]
  by_cases h1 : al ax ay bx by_ px py ≤ 0
  · rw [if_pos h1]
    constructor
    · intro h
      obtain ⟨rfl, rfl⟩ := sq_zero h
      have ht : tw ax ay bx by_ ax ay = 0 := by unfold tw; grind
      have ha : al ax ay bx by_ ax ay = 0 := by unfold al; grind
      exact ⟨ht, (inb_al ht).mpr (by omega)⟩
    · rintro ⟨ht, hi⟩
      have := (inb_al ht).mp hi
      have := sq_nn ax ay px py
      omega
  · rw [if_neg h1]
    by_cases h2 : sq ax ay bx by_ ≤ al ax ay bx by_ px py
    · rw [if_pos h2]
      constructor
      · intro h
        obtain ⟨rfl, rfl⟩ := sq_zero h
        have ht : tw ax ay bx by_ bx by_ = 0 := by unfold tw; grind
        exact ⟨ht, (inb_al ht).mpr h2⟩
      · rintro ⟨ht, hi⟩
        have := (inb_al ht).mp hi
        have := sq_nn bx by_ px py
        have := sq_far ax ay bx by_ px py
        omega
    · rw [if_neg h2, frN_zero (by omega) (by omega)]
      have hp := sq_nonneg (tw ax ay bx by_ px py)
      constructor
      · intro h
        have h0 : tw ax ay bx by_ px py * tw ax ay bx by_ px py = 0 := by omega
        have ht : tw ax ay bx by_ px py = 0 := by rcases Int.mul_eq_zero.1 h0 with a | a <;> exact a
        refine ⟨ht, (inb_al ht).mpr ?_⟩
        have hl := lagrange ax ay bx by_ px py
        rw [h0, Int.zero_add] at hl
        generalize al ax ay bx by_ px py = A at *
        generalize sq ax ay bx by_ = S at *
        generalize sq ax ay px py = Q at *
        apply Classical.byContradiction
        intro hq
        have a1 : A * A < S * A := Int.mul_lt_mul_of_pos_right (by omega) (by omega)
        have a2 : S * A ≤ S * Q := Int.mul_le_mul_of_nonneg_left (by omega) (by omega)
        omega
      · rintro ⟨ht, -⟩
        rw [ht]; rfl
theorem ds_sym {ax ay bx by_ px py : Int} (hn : nearL [(ax, ay), (bx, by_), (px, py)] = true) : dsN bx by_ ax ay px py = dsN ax ay bx by_ px py ∧ dsD bx by_ ax ay px py = dsD ax ay bx by_ px py := by
  have hn2 : nearL [(bx, by_), (ax, ay), (px, py)] = true := by
    have h := (near3_iff _ _ _ _ _ _).mp hn
    exact (near3_iff _ _ _ _ _ _).mpr ⟨h.2.1, h.1, h.2.2⟩
  have hs := sq_nn ax ay bx by_
  unfold dsN dsD
  rw [if_pos hn, if_pos hn2, if_pos hn, if_pos hn2, al_sym, sq_sym ax ay bx by_, tw_sym ax ay bx by_]
  by_cases h1 : al ax ay bx by_ px py ≤ 0
  · rw [if_pos h1, if_pos h1]
    by_cases h3 : sq ax ay bx by_ - al ax ay bx by_ px py ≤ 0
    · obtain ⟨rfl, rfl⟩ := sq_zero (show sq ax ay bx by_ = 0 by omega)
      rw [if_pos h3, if_pos h3]; exact ⟨rfl, rfl⟩
    · have h4 : sq ax ay bx by_ ≤ sq ax ay bx by_ - al ax ay bx by_ px py := by omega
      rw [if_neg h3, if_neg h3, if_pos h4, if_pos h4]; exact ⟨rfl, rfl⟩
  · rw [if_neg h1, if_neg h1]
    by_cases h2 : sq ax ay bx by_ ≤ al ax ay bx by_ px py
    · have h3 : sq ax ay bx by_ - al ax ay bx by_ px py ≤ 0 := by omega
      rw [if_pos h2, if_pos h2, if_pos h3, if_pos h3]; exact ⟨rfl, rfl⟩
    · have h3 : ¬ sq ax ay bx by_ - al ax ay bx by_ px py ≤ 0 := by omega
      have h4 : ¬ sq ax ay bx by_ ≤ sq ax ay bx by_ - al ax ay bx by_ px py := by omega
      rw [if_neg h2, if_neg h2, if_neg h3, if_neg h3, if_neg h4, if_neg h4]; exact ⟨rfl, rfl⟩
theorem ds_range {ax ay bx by_ px py : Int} (hn : nearL [(ax, ay), (bx, by_), (px, py)] = true) : 0 ≤ dsN ax ay bx by_ px py ∧ 1 ≤ dsD ax ay bx by_ px py := by
  unfold dsN dsD
  rw [if_pos hn, if_pos hn]
  have h1 := sq_nn ax ay px py
  have h2 := sq_nn bx by_ px py
  have h3 := sq_nn ax ay bx by_
  by_cases h1 : al ax ay bx by_ px py ≤ 0
  · rw [if_pos h1, if_pos h1]; omega
  · rw [if_neg h1, if_neg h1]
    by_cases h2 : sq ax ay bx by_ ≤ al ax ay bx by_ px py
    · rw [if_pos h2, if_pos h2]; omega
    · rw [if_neg h2, if_neg h2]
      exact ⟨frN_nn _ _, frD_pos _ _ (by omega)⟩
end Go.Proofs.Ytpdiojndfckmfaa.Geo
end
