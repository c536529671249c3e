/- Plain arithmetic of layer num: the reduced fraction of two numbers. No program in sight. -/
import Derived.Test.YtjclioakdmilmaaNumPlain
namespace Go.Proofs.Ytjclioakdmilmaa.Num
def gd (a b : Int) : Nat := Nat.gcd a.natAbs b.natAbs
def upq (a b : Int) : Nat := a.natAbs / gd a b
def loq (a b : Int) : Nat := b.natAbs / gd a b
def ngt (a b : Int) : Bool := decide (a < 0) != decide (b < 0)
/-- an absolute value has its int -/
def sOk (neg : Bool) (n : Nat) : Bool := if neg = true then decide (n ≤ 9223372036854775808) else decide (n ≤ 9223372036854775807)
def sVal (neg : Bool) (n : Nat) : Int := if sOk neg n = true then (if neg = true then -(n : Int) else n) else 0
def mkOk (a b : Int) : Bool := sOk (ngt a b) (upq a b) && sOk false (loq a b)
def mkE (a b : Int) : Int := if b = 0 then 21 else if mkOk a b = true then 0 else 15
def mkN (a b : Int) : Int := if mkE a b = 0 then sVal (ngt a b) (upq a b) else 0
def mkD (a b : Int) : Int := if mkE a b = 0 then sVal false (loq a b) else 0
theorem gd_pos {a b : Int} (h : b ≠ 0) : 0 < gd a b := Nat.gcd_pos_of_pos_right _ (by omega)
theorem upq_le (a b : Int) : upq a b ≤ a.natAbs := Nat.div_le_self _ _
theorem loq_le (a b : Int) : loq a b ≤ b.natAbs := Nat.div_le_self _ _
theorem upq_mul (a b : Int) : upq a b * gd a b = a.natAbs := Nat.div_mul_cancel (Nat.gcd_dvd_left _ _)
theorem loq_mul (a b : Int) : loq a b * gd a b = b.natAbs := Nat.div_mul_cancel (Nat.gcd_dvd_right _ _)
theorem loq_pos {a b : Int} (h : b ≠ 0) : 0 < loq a b := by
  have h1 := loq_mul a b
  rcases Nat.eq_zero_or_pos (loq a b) with h0 | h0
  · rw [h0, Nat.zero_mul] at h1; omega
  · exact h0
theorem coprime_q {a b : Int} (h : b ≠ 0) : Nat.gcd (upq a b) (loq a b) = 1 := Nat.gcd_div_gcd_div_gcd_of_pos_right (by omega)
theorem mk_small {a b : Int} (ha : -9223372036854775807 ≤ a) (ha' : a ≤ 9223372036854775807) (hb : 0 < b) (hb' : b ≤ 9223372036854775807) :
    mkE a b = 0 ∧ mkN a b = a / (gd a b : Int) ∧ mkD a b = b / (gd a b : Int) ∧ mkN a b * gd a b = a ∧ mkD a b * gd a b = b ∧ 0 < mkD a b ∧ mkD a b ≤ b ∧ 0 < gd a b ∧ Nat.gcd (mkN a b).natAbs (mkD a b).natAbs = 1 := by
  have hg : 0 < gd a b := gd_pos (by omega)
  have hu := upq_le a b
  have hl := loq_le a b
  have e0 : mkOk a b = true := by
    unfold mkOk sOk
    simp only [Bool.and_eq_true, Bool.false_eq_true, if_false]
    constructor
    · split <;> simp <;> omega
    · simp; omega
  have e1 : mkE a b = 0 := by unfold mkE; rw [if_neg (by omega), if_pos e0]
  have s1 : sOk (ngt a b) (upq a b) = true := by unfold mkOk at e0; simp at e0; exact e0.1
  have s2 : sOk false (loq a b) = true := by unfold mkOk at e0; simp at e0; exact e0.2
  have e2 : mkN a b = if a < 0 then -(upq a b : Int) else upq a b := by
    unfold mkN sVal; rw [if_pos e1, if_pos s1]
    have hb0 : decide (b < 0) = false := by simp; omega
    unfold ngt; rw [hb0]
    by_cases h : a < 0 <;> simp [h]
  have e3 : mkD a b = loq a b := by
    unfold mkD sVal; rw [if_pos e1, if_pos s2]; rfl
  have m1 := upq_mul a b
  have m2 := loq_mul a b
  have m1' : (upq a b : Int) * gd a b = a.natAbs := by exact_mod_cast m1
  have m2' : (loq a b : Int) * gd a b = b.natAbs := by exact_mod_cast m2
  have hp := loq_pos (a := a) (b := b) (by omega)
  have f1 : mkN a b * gd a b = a := by
    rw [e2]; split
    · rw [Int.neg_mul, m1']; omega
    · rw [m1']; omega
  have f2 : mkD a b * gd a b = b := by rw [e3, m2']; omega
  have hg' : (gd a b : Int) ≠ 0 := by omega
  have hab : (mkN a b).natAbs = upq a b := by rw [e2]; split <;> omega
  have hbb : (mkD a b).natAbs = loq a b := by rw [e3]; omega
  refine ⟨e1, ?_, ?_, f1, f2, by omega, by omega, hg, ?_⟩
  · exact (Int.ediv_eq_of_eq_mul_left hg' f1.symm).symm
  · exact (Int.ediv_eq_of_eq_mul_left hg' f2.symm).symm
  · rw [hab, hbb]; exact coprime_q (by omega)
theorem gd_add (a b n : Int) : gd (a + n * b) b = gd a b := by
  show Int.gcd (a + n * b) b = Int.gcd a b
  simp
/-- a whole number more -/
theorem mk_raise {a b n : Int} (ha : -4611686018427387904 ≤ a) (ha' : a ≤ 4611686018427387904) (hb : 0 < b) (hb' : b ≤ 9223372036854775807) (hn : -4611686018427387903 ≤ n * b) (hn' : n * b ≤ 4611686018427387903) :
    mkE (a + n * b) b = 0 ∧ mkE a b = 0 ∧ mkD (a + n * b) b = mkD a b ∧ mkN (a + n * b) b = mkN a b + n * mkD a b := by
  obtain ⟨p1, p2, p3, p4, p5, p6, p7, p8, -⟩ := mk_small (a := a) (b := b) (by omega) (by omega) hb hb'
  obtain ⟨q1, q2, q3, q4, q5, q6, q7, q8, -⟩ := mk_small (a := a + n * b) (b := b) (by omega) (by omega) hb hb'
  rw [gd_add] at q2 q3 q4 q5
  refine ⟨q1, p1, by rw [q3, p3], ?_⟩
  apply Int.eq_of_mul_eq_mul_right (a := (gd a b : Int)) (by omega)
  rw [q4, Int.add_mul, p4, Int.mul_assoc, p5]
end Go.Proofs.Ytjclioakdmilmaa.Num
