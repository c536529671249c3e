/- Plain arithmetic of a division of two words by one: one digit in base 2^32, and the whole. No program in sight. -/
set_option linter.unusedVariables false
namespace Go.Proofs.Ytjclioakdmilmaa.Num
theorem qy (q y1 y0 : Nat) : q * (y1 * 4294967296 + y0) = (q * y1) * 4294967296 + q * y0 := by rw [Nat.mul_add, Nat.mul_assoc]
theorem qy1 (q y1 y0 : Nat) : (q + 1) * (y1 * 4294967296 + y0) = (q * y1) * 4294967296 + q * y0 + y1 * 4294967296 + y0 := by rw [Nat.add_mul, qy, Nat.one_mul, Nat.add_assoc]; omega
theorem split32 (a : Nat) : a / 4294967296 * 4294967296 + a % 4294967296 = a := by omega
theorem top32_lt {a : Nat} (h : a < 18446744073709551616) : a / 4294967296 < 4294967296 := by omega
theorem top32_ge {a : Nat} (h : 9223372036854775808 ≤ a) : 2147483648 ≤ a / 4294967296 := by omega
theorem low32_lt (a : Nat) : a % 4294967296 < 4294967296 := Nat.mod_lt _ (by omega)
/-- a guess at a digit: it adds up, and is not too small -/
def Guess (u d y1 y0 q r : Nat) : Prop := q * y1 + r = u ∧ u * 4294967296 + d < (q + 1) * (y1 * 4294967296 + y0)
theorem guess_start {u d y1 y0 : Nat} (hy : 0 < y1) (hd : d < 4294967296) : Guess u d y1 y0 (u / y1) (u - u / y1 * y1) := by
  have h1 := Nat.div_add_mod u y1
  have h2 := Nat.mod_lt u hy
  rw [Nat.mul_comm] at h1
  refine ⟨by omega, ?_⟩
  rw [qy1]
  generalize u / y1 * y1 = P at *
  generalize u / y1 * y0 = Z at *
  omega
theorem guess_step {u d y1 y0 q r : Nat} (h : Guess u d y1 y0 q r) (hd : d < 4294967296) (hu : u < y1 * 4294967296 + y0) (hc : 4294967296 ≤ q ∨ 4294967296 * r + d < q * y0) : 1 ≤ q ∧ Guess u d y1 y0 (q - 1) (r + y1) := by
  obtain ⟨h1, h2⟩ := h
  have hq : 1 ≤ q := by
    rcases hc with h | h
    · omega
    · rcases Nat.eq_zero_or_pos q with h0 | h0
      · subst h0; rw [Nat.zero_mul] at h; omega
      · exact h0
  refine ⟨hq, ?_⟩
  obtain ⟨k, rfl⟩ : ∃ k, q = k + 1 := ⟨q - 1, by omega⟩
  have e : k + 1 - 1 = k := by omega
  rw [e]
  have h1' : k * y1 + y1 + r = u := by rw [Nat.add_mul, Nat.one_mul] at h1; exact h1
  refine ⟨by omega, ?_⟩
  rcases hc with h | h
  · have h3 := Nat.mul_le_mul_right (y1 * 4294967296 + y0) h
    generalize (k + 1) * (y1 * 4294967296 + y0) = T at *
    omega
  · rw [qy1]
    rw [Nat.add_mul, Nat.one_mul] at h
    generalize k * y1 = P at *
    generalize k * y0 = Z at *
    omega
/-- the digit -/
def dig (u d y1 y0 : Nat) : Nat := (u * 4294967296 + d) / (y1 * 4294967296 + y0)
theorem guess_is {u d y1 y0 q r : Nat} (h : Guess u d y1 y0 q r) (hz : q * y0 ≤ 4294967296 * r + d) : q = dig u d y1 y0 := by
  obtain ⟨h1, h2⟩ := h
  unfold dig
  refine (Nat.div_eq_of_lt_le ?_ h2).symm
  rw [qy]
  generalize q * y1 = P at *
  generalize q * y0 = Z at *
  omega
theorem guess_break {u d y1 y0 q r : Nat} (h : Guess u d y1 y0 q r) (hu : u < y1 * 4294967296 + y0) (h0 : y0 < 4294967296) (hr : 4294967296 ≤ r) : q = dig u d y1 y0 := by
  refine guess_is h ?_
  obtain ⟨h1, h2⟩ := h
  have hq : q < 4294967296 := by
    apply Classical.byContradiction; intro hx
    have := Nat.mul_le_mul_right y1 (show 4294967296 ≤ q by omega)
    omega
  have : q * y0 ≤ 4294967296 * 4294967296 := Nat.mul_le_mul (by omega) (by omega)
  omega
/-- a digit is one, and what is left is less than the divisor -/
theorem dig_lt {u d y1 y0 : Nat} (hu : u < y1 * 4294967296 + y0) (hd : d < 4294967296) : dig u d y1 y0 < 4294967296 := by
  unfold dig
  rw [Nat.div_lt_iff_lt_mul (by omega)]
  omega
def lft (u d y1 y0 : Nat) : Nat := (u * 4294967296 + d) % (y1 * 4294967296 + y0)
theorem lft_eq (u d y1 y0 : Nat) : dig u d y1 y0 * (y1 * 4294967296 + y0) + lft u d y1 y0 = u * 4294967296 + d := by
  have := Nat.div_add_mod (u * 4294967296 + d) (y1 * 4294967296 + y0)
  rw [Nat.mul_comm] at this
  exact this
theorem lft_lt {u d y1 y0 : Nat} (hu : u < y1 * 4294967296 + y0) : lft u d y1 y0 < y1 * 4294967296 + y0 := Nat.mod_lt _ (by omega)
theorem lin_two {A C r1 r0 d1 d0 u : Nat} (e1 : A + r1 = u * 4294967296 + d1) (e2 : C + r0 = r1 * 4294967296 + d0) : u * 18446744073709551616 + (d1 * 4294967296 + d0) = A * 4294967296 + C + r0 := by omega
/-- two digits are the whole quotient -/
theorem two_digits {u d1 d0 y1 y0 : Nat} (hu : u < y1 * 4294967296 + y0) (h1 : d1 < 4294967296) (h0 : d0 < 4294967296) :
    dig u d1 y1 y0 * 4294967296 + dig (lft u d1 y1 y0) d0 y1 y0 = (u * 18446744073709551616 + (d1 * 4294967296 + d0)) / (y1 * 4294967296 + y0) ∧ lft (lft u d1 y1 y0) d0 y1 y0 = (u * 18446744073709551616 + (d1 * 4294967296 + d0)) % (y1 * 4294967296 + y0) := by
  have e1 := lft_eq u d1 y1 y0
  have e2 := lft_eq (lft u d1 y1 y0) d0 y1 y0
  have l1 := lft_lt (d := d1) hu
  have l2 := lft_lt (d := d0) l1
  generalize lft u d1 y1 y0 = r1 at *
  generalize dig u d1 y1 y0 = q1 at *
  generalize lft r1 d0 y1 y0 = r0 at *
  generalize dig r1 d0 y1 y0 = q0 at *
  obtain ⟨y, hy⟩ : ∃ y, y1 * 4294967296 + y0 = y := ⟨_, rfl⟩
  rw [hy] at e1 e2 l1 l2 ⊢
  have e : u * 18446744073709551616 + (d1 * 4294967296 + d0) = (q1 * 4294967296 + q0) * y + r0 := by
    have e3 : q1 * 4294967296 * y = q1 * y * 4294967296 := Nat.mul_right_comm _ _ _
    rw [Nat.add_mul, e3]
    exact lin_two e1 e2
  rw [e]
  constructor
  · have hy0 : 0 < y := by omega
    clear e e1 e2 hy h1 h0 hu
    rw [Nat.add_comm (_ * y) r0, Nat.add_mul_div_right _ _ hy0, Nat.div_eq_of_lt l2, Nat.zero_add]
  · clear e e1 e2 hy h1 h0 hu
    rw [Nat.add_comm (_ * y) r0, Nat.add_mul_mod_self_right, Nat.mod_eq_of_lt l2]
/-- shifting both sides by s -/
theorem norm_parts {hi lo s : Nat} (hs : s ≤ 64) (hh : hi * 2 ^ s < 18446744073709551616) (hl : lo < 18446744073709551616) :
    (hi * 18446744073709551616 + lo) * 2 ^ s = (hi * 2 ^ s + lo / 2 ^ (64 - s)) * 18446744073709551616 + lo * 2 ^ s % 18446744073709551616 := by
  have e : (18446744073709551616 : Nat) = 2 ^ (64 - s) * 2 ^ s := by rw [← Nat.pow_add, show 64 - s + s = 64 by omega]
  have h1 := Nat.div_add_mod (lo * 2 ^ s) 18446744073709551616
  have h2 : lo * 2 ^ s / 18446744073709551616 = lo / 2 ^ (64 - s) := by
    conv => lhs; rw [e]
    exact Nat.mul_div_mul_right _ _ (Nat.pow_pos (by omega))
  rw [h2] at h1
  rw [Nat.add_mul, Nat.mul_right_comm]
  generalize hi * 2 ^ s = A at *
  generalize lo * 2 ^ s = C at *
  generalize lo / 2 ^ (64 - s) = D at *
  omega
theorem norm_lt {hi lo y s : Nat} (hs : s ≤ 64) (hhy : hi < y) (hl : lo < 18446744073709551616) : hi * 2 ^ s + lo / 2 ^ (64 - s) < y * 2 ^ s := by
  have e : (18446744073709551616 : Nat) = 2 ^ (64 - s) * 2 ^ s := by rw [← Nat.pow_add, show 64 - s + s = 64 by omega]
  have h1 : lo / 2 ^ (64 - s) < 2 ^ s := by
    rw [Nat.div_lt_iff_lt_mul (Nat.pow_pos (by omega)), Nat.mul_comm, ← e]; exact hl
  have h2 := Nat.mul_le_mul_right (2 ^ s) (show hi + 1 ≤ y by omega)
  rw [Nat.add_mul, Nat.one_mul] at h2
  omega
theorem unnorm (u y s : Nat) : u * 2 ^ s / (y * 2 ^ s) = u / y ∧ u * 2 ^ s % (y * 2 ^ s) / 2 ^ s = u % y := by
  have hp : 0 < 2 ^ s := Nat.pow_pos (by omega)
  refine ⟨Nat.mul_div_mul_right _ _ hp, ?_⟩
  rw [Nat.mul_mod_mul_right, Nat.mul_div_cancel _ hp]
end Go.Proofs.Ytjclioakdmilmaa.Num
