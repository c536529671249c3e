/- Plain arithmetic of layer num: fractions that are reduced again; the order of small fractions. -/
import Derived.Test.YtffmlpenohpjlaaNumPlainE
set_option linter.unusedVariables false
namespace Go.Proofs.Ytffmlpenohpjlaa.Num
theorem mk_zero {a b : Int} (h : mkE a b ≠ 0) : mkN a b = 0 ∧ mkD a b = 0 := by
  unfold mkN mkD; rw [if_neg h, if_neg h]; exact ⟨rfl, rfl⟩
theorem mk_parts {a b : Int} (h : mkE a b = 0) : b ≠ 0 ∧ (mkN a b).natAbs = upq a b ∧ mkD a b = loq a b ∧ (mkN a b = if ngt a b = true then -(upq a b : Int) else upq a b) := by
  have hb : b ≠ 0 := by intro hb; unfold mkE at h; rw [if_pos hb] at h; cases h
  have ho : mkOk a b = true := by
    unfold mkE at h; rw [if_neg hb] at h
    cases e : mkOk a b
    · rw [e] at h; simp at h
    · rfl
  have ho' := ho
  unfold mkOk at ho'
  rw [Bool.and_eq_true] at ho'
  have e1 : mkN a b = if ngt a b = true then -(upq a b : Int) else upq a b := by unfold mkN sVal; rw [if_pos h, if_pos ho'.1]
  have e2 : mkD a b = loq a b := by unfold mkD sVal; rw [if_pos h, if_pos ho'.2]; rfl
  refine ⟨hb, ?_, e2, e1⟩
  rw [e1]; split <;> omega
theorem mk_vld {a b : Int} (h : mkE a b = 0) : vld (mkN a b) (mkD a b) = true := by
  obtain ⟨hb, e1, e2, -⟩ := mk_parts h
  have hp := loq_pos (a := a) hb
  have hc := coprime_q (a := a) hb
  have e3 : (mkD a b).natAbs = loq a b := by omega
  unfold vld gd
  rw [e1, e3, hc]
  simp; omega
theorem mk_range {a b : Int} (h : mkE a b = 0) (h1 : I64 a) (h2 : I64 b) : I64 (mkN a b) ∧ I64 (mkD a b) := by
  obtain ⟨hb, e1, e2, e3⟩ := mk_parts h
  have hu := upq_le a b
  have hl := loq_le a b
  unfold I64 at *
  have hN : mkN a b ≤ 9223372036854775807 ∧ mkD a b ≤ 9223372036854775807 := by
    have ho : mkOk a b = true := by
      unfold mkE at h; rw [if_neg hb] at h
      cases e : mkOk a b
      · rw [e] at h; simp at h
      · rfl
    unfold mkOk sOk at ho
    rw [Bool.and_eq_true] at ho
    obtain ⟨o1, o2⟩ := ho
    rw [e3, e2]
    simp at o2
    refine ⟨?_, by omega⟩
    cases hn : ngt a b
    · rw [hn] at o1; simp at o1; rw [if_neg (by simp)]; omega
    · rw [if_pos rfl]; omega
  omega
theorem mk_scaled {N D m : Int} (hv : vld N D = true) (h1 : 1 ≤ m) (h2 : m ≤ 1000) (n1 : -1099511627776 ≤ N) (n2 : N ≤ 1099511627776) (d2 : D ≤ 1099511627776) :
    mkE (-m * N) (-m * D) = 0 ∧ mkN (-m * N) (-m * D) = N ∧ mkD (-m * N) (-m * D) = D := by
  have d1 := vld_pos hv
  have hg : Nat.gcd N.natAbs D.natAbs = 1 := by
    unfold vld gd at hv
    rw [Bool.and_eq_true] at hv
    have := hv.2
    simp at this
    exact_mod_cast this
  obtain ⟨M, rfl⟩ := Int.eq_ofNat_of_zero_le (show 0 ≤ m by omega)
  have a1 : (-(M : Int) * N).natAbs = M * N.natAbs := by rw [Int.natAbs_mul]; congr 1; omega
  have a2 : (-(M : Int) * D).natAbs = M * D.natAbs := by rw [Int.natAbs_mul]; congr 1; omega
  have hM : 0 < M := by omega
  have g : gd (-(M : Int) * N) (-(M : Int) * D) = M := by unfold gd; rw [a1, a2, Nat.gcd_mul_left, hg, Nat.mul_one]
  have u : upq (-(M : Int) * N) (-(M : Int) * D) = N.natAbs := by unfold upq; rw [g, a1, Nat.mul_div_cancel_left _ hM]
  have l : loq (-(M : Int) * N) (-(M : Int) * D) = D.natAbs := by unfold loq; rw [g, a2, Nat.mul_div_cancel_left _ hM]
  have hMD : 0 < (M : Int) * D := Int.mul_pos (by omega) d1
  have eD : -(M : Int) * D = -((M : Int) * D) := Int.neg_mul _ _
  have eN : -(M : Int) * N = -((M : Int) * N) := Int.neg_mul _ _
  have ng : ngt (-(M : Int) * N) (-(M : Int) * D) = decide (N ≤ 0) := by
    unfold ngt
    have e1 : decide (-(M : Int) * D < 0) = true := by rw [eD]; simp; exact hMD
    rw [e1]
    by_cases hn : 0 < N
    · have : 0 < (M : Int) * N := Int.mul_pos (by omega) hn
      have e2 : decide (-(M : Int) * N < 0) = true := by rw [eN]; simp; exact this
      have e3 : decide (N ≤ 0) = false := by simp; omega
      rw [e2, e3]; rfl
    · have : (M : Int) * N ≤ 0 := Int.mul_nonpos_of_nonneg_of_nonpos (by omega) (by omega)
      have e2 : decide (-(M : Int) * N < 0) = false := by rw [eN]; simp; exact this
      have e3 : decide (N ≤ 0) = true := by simp; omega
      rw [e2, e3]; rfl
  have hb : -(M : Int) * D ≠ 0 := by rw [eD]; omega
  have hok : mkOk (-(M : Int) * N) (-(M : Int) * D) = true := by
    unfold mkOk sOk; rw [u, l, ng]
    simp only [Bool.and_eq_true]
    constructor
    · split <;> simp <;> omega
    · simp; omega
  have hE : mkE (-(M : Int) * N) (-(M : Int) * D) = 0 := by unfold mkE; rw [if_neg hb, if_pos hok]
  obtain ⟨-, -, e2, e1⟩ := mk_parts hE
  refine ⟨hE, ?_, ?_⟩
  · rw [e1, u, ng]
    by_cases hn : N ≤ 0
    · rw [if_pos (by simpa using hn)]; omega
    · rw [if_neg (by simpa using hn)]; omega
  · rw [e2, l]; omega
theorem scale_in {N m : Int} (h1 : 1 ≤ m) (h2 : m ≤ 1000) (n1 : -1099511627776 ≤ N) (n2 : N ≤ 1099511627776) : -1099511627776000 ≤ -m * N ∧ -m * N ≤ 1099511627776000 := by
  have e : -m * N = -(m * N) := Int.neg_mul _ _
  rw [e]
  rcases Int.lt_or_le N 0 with h | h
  · have a1 : m * N ≤ 0 := Int.mul_nonpos_of_nonneg_of_nonpos (by omega) (by omega)
    have a2 : m * (-N) ≤ 1000 * 1099511627776 := Int.mul_le_mul h2 (by omega) (by omega) (by omega)
    rw [Int.mul_neg] at a2
    omega
  · have a1 : 0 ≤ m * N := Int.mul_nonneg (by omega) h
    have a2 : m * N ≤ 1000 * 1099511627776 := Int.mul_le_mul h2 n2 h (by omega)
    omega
end Go.Proofs.Ytffmlpenohpjlaa.Num
