/- Plain words for layer ink: the cells of a segment lead from its beginning to its end in single steps; reversed and moved segments. No program in sight. -/
import Derived.Test.YtjclioakdmilmaaInkPlain
set_option linter.unusedVariables false
namespace Go.Proofs.Ytjclioakdmilmaa.Ink
open Num
theorem rnd_shift {x m k : Int} (hm : 0 < m) : rnd (x + m * k) m = rnd x m + k := by
  unfold rnd
  obtain ⟨s1, s2⟩ := fl_spec_pos (2 * x + m) (b := 2 * m) (by omega)
  generalize fl (2 * x + m) (2 * m) = q at *
  have e : 2 * m * (q + k) = 2 * m * q + 2 * (m * k) := by rw [Int.mul_add, Int.mul_assoc 2 m k]
  refine fl_pos (by omega) ?_ ?_ <;> rw [e] <;> omega
theorem rnd_zero {m : Int} (hm : 0 ≤ m) : rnd 0 m = 0 := by
  rcases Int.lt_or_le 0 m with h | h
  · unfold rnd
    exact fl_pos (by omega) (by omega) (by omega)
  · obtain rfl : m = 0 := by omega
    exact rnd_00
theorem rnd_step {x e m : Int} (hm : 0 < m) (he : -m ≤ e ∧ e ≤ m) : rnd x m - 1 ≤ rnd (x + e) m ∧ rnd (x + e) m ≤ rnd x m + 1 := by
  unfold rnd
  obtain ⟨s1, s2⟩ := fl_spec_pos (2 * x + m) (b := 2 * m) (by omega)
  obtain ⟨r1, r2⟩ := fl_spec_pos (2 * (x + e) + m) (b := 2 * m) (by omega)
  generalize fl (2 * x + m) (2 * m) = q at *
  generalize fl (2 * (x + e) + m) (2 * m) = r at *
  constructor
  · apply Int.not_lt.1
    intro h
    have h2 : 2 * m * (r + 2) ≤ 2 * m * q := Int.mul_le_mul_of_nonneg_left (by omega) (by omega)
    rw [Int.mul_add] at h2
    omega
  · apply Int.not_lt.1
    intro h
    have h2 : 2 * m * (q + 2) ≤ 2 * m * r := Int.mul_le_mul_of_nonneg_left (by omega) (by omega)
    rw [Int.mul_add] at h2
    omega
/-- the main coordinate -/
theorem main_end {d N : Int} (h : N = max d (-d)) : N * sg d = d := by
  unfold sg
  split <;> omega
theorem main_back {a b N i : Int} (h : N = max (b - a) (-(b - a))) (hi : 0 ≤ i ∧ i ≤ N) : b + (N - i) * sg (a - b) = a + i * sg (b - a) := by
  unfold sg
  by_cases h0 : b - a < 0
  · rw [if_neg (by omega), if_pos h0]; omega
  · by_cases h1 : a - b < 0
    · rw [if_pos h1, if_neg h0]; omega
    · rw [if_neg h1, if_neg h0]; omega
/-- the other coordinate -/
theorem oth_end {e N : Int} (hN : 0 ≤ N) (he : -N ≤ e ∧ e ≤ N) : rnd (N * e) N = e := by
  rcases Int.lt_or_le 0 N with h | h
  · have := rnd_shift (x := 0) (m := N) (k := e) h
    rw [Int.zero_add, rnd_zero (by omega)] at this
    omega
  · obtain rfl : N = 0 := by omega
    rw [Int.zero_mul, rnd_00]; omega
theorem oth_back {a b N i : Int} (hN : 0 ≤ N) (he : -N ≤ b - a ∧ b - a ≤ N) (hi : 0 ≤ i ∧ i ≤ N) : b + rnd ((N - i) * (a - b)) N = a + rnd (i * (b - a)) N := by
  rcases Int.lt_or_le 0 N with h | h
  · have e : (N - i) * (a - b) = i * (b - a) + N * (a - b) := by
      rw [Int.sub_mul, Int.mul_sub i b a, Int.mul_sub i a b]; omega
    rw [e, rnd_shift h]; omega
  · obtain rfl : N = 0 := by omega
    obtain rfl : i = 0 := by omega
    rw [Int.sub_self, Int.zero_mul, Int.zero_mul]; omega
theorem stp_rev (ax ay bx by_ : Int) : stp bx by_ ax ay = stp ax ay bx by_ := by unfold stp; omega
theorem wide_rev (ax ay bx by_ : Int) : wide bx by_ ax ay = wide ax ay bx by_ := by
  unfold wide; rw [decide_eq_decide]; omega
theorem stp_mv (ax ay bx by_ x y : Int) : stp (ax + x) (ay + y) (bx + x) (by_ + y) = stp ax ay bx by_ := by unfold stp; omega
theorem wide_mv (ax ay bx by_ x y : Int) : wide (ax + x) (ay + y) (bx + x) (by_ + y) = wide ax ay bx by_ := by
  unfold wide; rw [decide_eq_decide]; omega
theorem wide_true {ax ay bx by_ : Int} (h : wide ax ay bx by_ = true) : stp ax ay bx by_ = max (bx - ax) (-(bx - ax)) ∧ (-(stp ax ay bx by_) ≤ by_ - ay ∧ by_ - ay ≤ stp ax ay bx by_) := by
  unfold wide at h
  simp only [decide_eq_true_eq] at h
  unfold stp; omega
theorem wide_false {ax ay bx by_ : Int} (h : wide ax ay bx by_ = false) : stp ax ay bx by_ = max (by_ - ay) (-(by_ - ay)) ∧ (-(stp ax ay bx by_) ≤ bx - ax ∧ bx - ax ≤ stp ax ay bx by_) := by
  unfold wide at h
  simp only [decide_eq_false_iff_not] at h
  unfold stp; omega
theorem stp_nn (ax ay bx by_ : Int) : 0 ≤ stp ax ay bx by_ := by unfold stp; omega
theorem celP_start (ax ay bx by_ : Int) : celP ax ay bx by_ 0 = (ax, ay) := by
  unfold celP
  rw [Int.zero_mul, Int.zero_mul, Int.zero_mul, Int.zero_mul, rnd_zero (stp_nn _ _ _ _)]
  split <;> simp
theorem celP_end (ax ay bx by_ : Int) : celP ax ay bx by_ (stp ax ay bx by_) = (bx, by_) := by
  have hN := stp_nn ax ay bx by_
  unfold celP
  cases hw : wide ax ay bx by_
  · obtain ⟨h1, h2⟩ := wide_false hw
    have e1 := main_end h1
    have e2 := oth_end hN h2
    simp only [Bool.false_eq_true, if_false]
    rw [e1, e2]
    congr 1 <;> omega
  · obtain ⟨h1, h2⟩ := wide_true hw
    have e1 := main_end h1
    have e2 := oth_end hN h2
    simp only [if_true]
    rw [e1, e2]
    congr 1 <;> omega
theorem celP_back (ax ay bx by_ i : Int) (hi : 0 ≤ i ∧ i ≤ stp ax ay bx by_) : celP bx by_ ax ay (stp ax ay bx by_ - i) = celP ax ay bx by_ i := by
  have hN := stp_nn ax ay bx by_
  unfold celP
  rw [stp_rev ax ay bx by_, wide_rev ax ay bx by_]
  cases hw : wide ax ay bx by_
  · obtain ⟨h1, h2⟩ := wide_false hw
    simp only [Bool.false_eq_true, if_false]
    rw [main_back h1 hi, oth_back hN h2 hi]
  · obtain ⟨h1, h2⟩ := wide_true hw
    simp only [if_true]
    rw [main_back h1 hi, oth_back hN h2 hi]
theorem celP_mv (ax ay bx by_ x y i : Int) : celP (ax + x) (ay + y) (bx + x) (by_ + y) i = ((celP ax ay bx by_ i).1 + x, (celP ax ay bx by_ i).2 + y) := by
  have e1 : bx + x - (ax + x) = bx - ax := by omega
  have e2 : by_ + y - (ay + y) = by_ - ay := by omega
  unfold celP
  rw [stp_mv, wide_mv, e1, e2]
  split
  · congr 1 <;> dsimp only <;> omega
  · congr 1 <;> dsimp only <;> omega
theorem sg_one (d : Int) : sg d = 1 ∨ sg d = -1 := by unfold sg; split <;> simp
/-- one step -/
theorem celP_step (ax ay bx by_ i : Int) (hN : 0 < stp ax ay bx by_) : (-1 ≤ (celP ax ay bx by_ (i + 1)).1 - (celP ax ay bx by_ i).1 ∧ (celP ax ay bx by_ (i + 1)).1 - (celP ax ay bx by_ i).1 ≤ 1) ∧ (-1 ≤ (celP ax ay bx by_ (i + 1)).2 - (celP ax ay bx by_ i).2 ∧ (celP ax ay bx by_ (i + 1)).2 - (celP ax ay bx by_ i).2 ≤ 1) ∧
    ((celP ax ay bx by_ (i + 1)).1 ≠ (celP ax ay bx by_ i).1 ∨ (celP ax ay bx by_ (i + 1)).2 ≠ (celP ax ay bx by_ i).2) := by
  unfold celP
  cases hw : wide ax ay bx by_
  · obtain ⟨h1, h2⟩ := wide_false hw
    simp only [Bool.false_eq_true, if_false]
    have e := rnd_step (x := i * (bx - ax)) (e := bx - ax) hN h2
    rw [show i * (bx - ax) + (bx - ax) = (i + 1) * (bx - ax) by rw [Int.add_mul, Int.one_mul]] at e
    rw [Int.add_mul i 1 (sg _), Int.one_mul]
    rcases sg_one (by_ - ay) with h | h <;> rw [h] <;> omega
  · obtain ⟨h1, h2⟩ := wide_true hw
    simp only [if_true]
    have e := rnd_step (x := i * (by_ - ay)) (e := by_ - ay) hN h2
    rw [show i * (by_ - ay) + (by_ - ay) = (i + 1) * (by_ - ay) by rw [Int.add_mul, Int.one_mul]] at e
    rw [Int.add_mul i 1 (sg _), Int.one_mul]
    rcases sg_one (bx - ax) with h | h <;> rw [h] <;> omega
end Go.Proofs.Ytjclioakdmilmaa.Ink
