/- Plain words for interpolated heights. -/
import Derived.Test.YthgdmcjahldihaaTerPlain
set_option linter.unusedVariables false
namespace Go.Proofs.Ythgdmcjahldihaa.Ter
/-- the column (or row) of the cell of a point: X behind the grid's edge, steps of S, M columns -/
def stp (X S M : Int) : Int := if M - 2 < X / S then M - 2 else X / S
theorem stp_min {X S M : Int} (hX : 0 ≤ X) {k : Int} (h : stp X S M = k) : (if M - 2 < X.tdiv S then M - 2 else X.tdiv S) = k := by
  rw [Int.tdiv_eq_ediv_of_nonneg hX]; exact h
theorem stp_facts {X S M : Int} {k : Nat} (hX : 0 ≤ X) (hX' : X ≤ (M - 1) * S) (hM : 2 ≤ M) (hS : 1 ≤ S) (h : stp X S M = k) :
    (k : Int) ≤ M - 2 ∧ 0 ≤ (k : Int) * S ∧ (k : Int) * S ≤ X ∧ X - k * S ≤ S := by
  unfold stp at h
  have e := Int.mul_ediv_add_emod X S
  have e1 := Int.emod_nonneg X (show S ≠ 0 by omega)
  have e2 := Int.emod_lt_of_pos X (show 0 < S by omega)
  have h0 : 0 ≤ (k : Int) * S := Int.mul_nonneg (by omega) (by omega)
  split at h
  · rename_i hlt
    have h3 : S * (M - 2) ≤ S * (X / S) := Int.mul_le_mul_of_nonneg_left (by omega) (by omega)
    have h4 : (M - 1) * S = S * (M - 2) + S := by rw [Int.mul_comm, Int.mul_sub, Int.mul_sub]; omega
    rw [← h, Int.mul_comm (M - 2) S]
    have h5 : 0 ≤ S * (M - 2) := by rw [Int.mul_comm]; rw [h]; exact h0
    refine ⟨by omega, by omega, by omega, by omega⟩
  · rename_i hlt
    rw [← h, Int.mul_comm (X / S) S]
    have h5 : 0 ≤ S * (X / S) := by rw [Int.mul_comm]; rw [h]; exact h0
    refine ⟨by omega, by omega, by omega, by omega⟩
theorem stp_nat {X S M : Int} (hX : 0 ≤ X) (hM : 2 ≤ M) (hS : 1 ≤ S) : ∃ k : Nat, stp X S M = k := by
  have : 0 ≤ X / S := Int.ediv_nonneg hX (by omega)
  exact ⟨(stp X S M).toNat, by unfold stp; split <;> omega⟩
/-- the numerator of the height of a point of a cell -/
def htN (z : Nat → Int) (m : Nat) (S : Int) (i : Nat) (u v : Int) : Int :=
  if v ≤ u then z i * S + (z (i + 1) - z i) * u + (z (i + m + 1) - z (i + 1)) * v else z i * S + (z (i + m) - z i) * v + (z (i + m + 1) - z (i + m)) * u
/-- the product of a difference of heights and a part of a step -/
theorem mul_part {d u : Int} (h1 : -20000 ≤ d) (h2 : d ≤ 20000) (h3 : 0 ≤ u) (h4 : u ≤ 1048576) : -20971520000 ≤ d * u ∧ d * u ≤ 20971520000 := by
  have a := Int.mul_le_mul_of_nonneg_right h2 h3
  have b := Int.mul_le_mul_of_nonneg_right h1 h3
  omega
end Go.Proofs.Ythgdmcjahldihaa.Ter
