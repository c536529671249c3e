/- Plain arithmetic of layer num, the reference: a product divided, bit by bit. -/
set_option linter.unusedVariables false
namespace Go.Proofs.Ytffmlpenohpjlaa.Num
/-- the bits of a above m are done -/
def PInv (a b c m q r : Nat) : Prop := a / 2 ^ m * b = q * c + r ∧ r < c
theorem bit_split (a k : Nat) : a / 2 ^ k = 2 * (a / 2 ^ (k + 1)) + a / 2 ^ k % 2 := by
  have : a / 2 ^ (k + 1) = a / 2 ^ k / 2 := by rw [Nat.pow_succ, Nat.div_div_eq_div_mul]
  rw [this]; omega
theorem p_start {a b c : Nat} (ha : a < 2 ^ 64) (hc : 0 < c) : PInv a b c 64 0 0 := by
  refine ⟨?_, hc⟩
  rw [Nat.div_eq_of_lt ha]; simp
/-- what the doubling leaves -/
def PHalf (a b c k q r : Nat) : Prop := 2 * (a / 2 ^ (k + 1)) * b = q * c + r ∧ r < c
theorem p_up {a b c k q r : Nat} (h : PInv a b c (k + 1) q r) (hr : c ≤ 2 * r) : PHalf a b c k (2 * q + 1) (2 * r - c) := by
  obtain ⟨h1, h2⟩ := h
  refine ⟨?_, by omega⟩
  rw [Nat.mul_assoc, h1, Nat.add_mul, Nat.mul_assoc, Nat.one_mul]
  generalize q * c = p at *
  omega
theorem p_down {a b c k q r : Nat} (h : PInv a b c (k + 1) q r) (hr : 2 * r < c) : PHalf a b c k (2 * q) (2 * r) := by
  obtain ⟨h1, h2⟩ := h
  refine ⟨?_, by omega⟩
  rw [Nat.mul_assoc, h1, Nat.mul_assoc]
  generalize q * c = p at *
  omega
theorem p_zero {a b c k q r : Nat} (h : PHalf a b c k q r) (hb : a / 2 ^ k % 2 = 0) : PInv a b c k q r := by
  obtain ⟨h1, h2⟩ := h
  refine ⟨?_, h2⟩
  rw [bit_split a k, hb, Nat.add_zero]; exact h1
theorem p_one_down {a b c k q r : Nat} (h : PHalf a b c k q r) (hb : a / 2 ^ k % 2 = 1) (hc : 0 < c) (hr : r + b % c < c) : PInv a b c k (q + b / c) (r + b % c) := by
  obtain ⟨h1, h2⟩ := h
  refine ⟨?_, hr⟩
  have h3 := Nat.div_add_mod b c
  rw [bit_split a k, hb, Nat.add_mul, h1, Nat.one_mul, Nat.add_mul, Nat.mul_comm (b / c) c]
  generalize q * c = p at *
  generalize c * (b / c) = s at *
  omega
theorem p_one_up {a b c k q r : Nat} (h : PHalf a b c k q r) (hb : a / 2 ^ k % 2 = 1) (hc : 0 < c) (hr : c ≤ r + b % c) : PInv a b c k (q + b / c + 1) (r + b % c - c) := by
  obtain ⟨h1, h2⟩ := h
  have h4 := Nat.mod_lt b hc
  refine ⟨?_, by omega⟩
  have h3 := Nat.div_add_mod b c
  rw [bit_split a k, hb, Nat.add_mul, h1, Nat.one_mul, Nat.add_mul, Nat.add_mul, Nat.mul_comm (b / c) c, Nat.one_mul]
  generalize q * c = p at *
  generalize c * (b / c) = s at *
  omega
theorem p_end {a b c q r : Nat} (h : PInv a b c 0 q r) : q = a * b / c ∧ r = a * b % c := by
  obtain ⟨h1, h2⟩ := h
  simp at h1
  rw [h1]
  have hc : 0 < c := by omega
  constructor
  · rw [Nat.add_comm, Nat.add_mul_div_right _ _ hc, Nat.div_eq_of_lt h2, Nat.zero_add]
  · rw [Nat.add_comm, Nat.add_mul_mod_self_right, Nat.mod_eq_of_lt h2]
theorem p_over {a b c k Q : Nat} (hc : 0 < c) (h : Q * c ≤ a / 2 ^ k * b) : Q ≤ a * b / c := by
  rw [Nat.le_div_iff_mul_le hc]
  exact Nat.le_trans h (Nat.mul_le_mul_right _ (Nat.div_le_self _ _))
/-- the quotient is too great: at the doubling -/
theorem p_fail1 {a b c k q r : Nat} (h : PInv a b c (k + 1) q r) (hq : 4611686018427387904 < q) : 9223372036854775808 < a * b / c := by
  obtain ⟨h1, h2⟩ := h
  have : 2 * q ≤ a * b / c := by
    apply p_over (k := k) (by omega)
    rw [bit_split a k, Nat.add_mul, Nat.mul_assoc 2 (a / 2 ^ (k + 1)) b, h1, Nat.mul_assoc]
    generalize q * c = p at *
    generalize a / 2 ^ k % 2 * b = s at *
    omega
  omega
/-- .. at the addition -/
theorem p_fail2 {a b c k q r : Nat} (h : PHalf a b c k q r) (hb : a / 2 ^ k % 2 = 1) (hq : 9223372036854775808 < q ∨ 9223372036854775808 < q + b / c) : 9223372036854775808 < a * b / c := by
  obtain ⟨h1, h2⟩ := h
  have h3 : b / c * c ≤ b := Nat.div_mul_le_self _ _
  have : q + b / c ≤ a * b / c := by
    apply p_over (k := k) (by omega)
    rw [bit_split a k, hb, Nat.add_mul (2 * (a / 2 ^ (k + 1))) 1 b, h1, Nat.one_mul, Nat.add_mul]
    generalize q * c = p at *
    generalize b / c * c = s at *
    omega
  generalize b / c = u at *
  generalize a * b / c = v at *
  rcases hq with hq | hq <;> omega
end Go.Proofs.Ytffmlpenohpjlaa.Num
