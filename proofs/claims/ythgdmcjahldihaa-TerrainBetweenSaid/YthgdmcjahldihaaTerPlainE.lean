/- Plain words for peaks. -/
import Derived.Test.YthgdmcjahldihaaTerPlain
set_option linter.unusedVariables false
namespace Go.Proofs.Ythgdmcjahldihaa.Ter
/-- a neighbour that is not lower -/
def Bad (z : Nat → Int) (m q k r c' r' : Nat) : Prop := (r' ≤ r + 1 ∧ r ≤ r' + 1) ∧ (c' ≤ k + 1 ∧ k ≤ c' + 1) ∧ (¬ (c' = k ∧ r' = r)) ∧ z (r * m + k) ≤ z (r' * m + c')
instance (z : Nat → Int) (m q k r c' r' : Nat) : Decidable (Bad z m q k r c' r') := by unfold Bad; infer_instance
/-- a grid point is higher than its neighbours -/
def pkB (z : Nat → Int) (m q k r : Nat) : Bool := decide (∀ r', r' < q → ∀ c', c' < m → ¬ Bad z m q k r c' r')
theorem pk_yes {z : Nat → Int} {m q k r : Nat} (h : ∀ r', r' < q → ∀ c', c' < m → ¬ Bad z m q k r c' r') : pkB z m q k r = true := decide_eq_true h
theorem pk_no {z : Nat → Int} {m q k r c' r' : Nat} (hr : r' < q) (hc : c' < m) (h : Bad z m q k r c' r') : pkB z m q k r = false := decide_eq_false fun hx => hx r' hr c' hc h
end Go.Proofs.Ythgdmcjahldihaa.Ter
namespace Go.Proofs.Ythgdmcjahldihaa.Ter
/-- the t-th grid point, if it is a peak -/
def pkO (z : Nat → Int) (m q : Nat) (x y S : Int) (t : Nat) : List (Int × Int) := if pkB z m q (t % m) (t / m) = true then [(x + ((t % m : Nat) : Int) * S, y + ((t / m : Nat) : Int) * S)] else []
/-- the peaks among the first t grid points -/
def pkL (z : Nat → Int) (m q : Nat) (x y S : Int) : Nat → List (Int × Int)
  | 0 => []
  | t + 1 => pkL z m q x y S t ++ pkO z m q x y S t
theorem pkO_at (z : Nat → Int) {m q : Nat} (x y S : Int) {k r : Nat} (hk : k < m) : pkO z m q x y S (r * m + k) = if pkB z m q k r = true then [(x + (k : Int) * S, y + (r : Int) * S)] else [] := by
  unfold pkO
  have e1 : (r * m + k) % m = k := by rw [Nat.mul_comm, Nat.mul_add_mod]; exact Nat.mod_eq_of_lt hk
  have e2 : (r * m + k) / m = r := by rw [Nat.mul_comm, Nat.mul_add_div (by omega), Nat.div_eq_of_lt hk]; rfl
  rw [e1, e2]
theorem pkL_len (z : Nat → Int) (m q : Nat) (x y S : Int) (t : Nat) : (pkL z m q x y S t).length ≤ t := by
  induction t with
  | zero => simp [pkL]
  | succ t ih =>
    unfold pkL pkO
    rw [List.length_append]
    split <;> simp <;> omega
end Go.Proofs.Ythgdmcjahldihaa.Ter
