/- A grid reflected at the direction of the light. Plain laws. -/
import Derived.Test.YthgdmcjahldihaaRelPlain
set_option linter.unusedVariables false
namespace Go.Proofs.Ythgdmcjahldihaa.Ter
/-- where the height of column c and row r lies in the reflected grid -/
def tIx (m q r c : Nat) : Nat := (m - 1 - c) * q + (q - 1 - r)
theorem tIx_lt {m q r c : Nat} (hr : r < q) (hc : c < m) : tIx m q r c < m * q := by
  unfold tIx
  have h := Nat.mul_le_mul_right q (show m - 1 - c + 1 ≤ m by omega)
  rw [Nat.add_mul, Nat.one_mul] at h
  omega
theorem tIx_inj {m q r c r' c' : Nat} (hr : r < q) (hc : c < m) (hr' : r' < q) (hc' : c' < m) (h : tIx m q r c = tIx m q r' c') : r = r' ∧ c = c' := by
  unfold tIx at h
  have e : ∀ a b : Nat, b < q → (a * q + b) / q = a ∧ (a * q + b) % q = b := by
    intro a b hb
    rw [Nat.mul_comm]
    exact ⟨by rw [Nat.mul_add_div (by omega), Nat.div_eq_of_lt hb]; rfl, by rw [Nat.mul_add_mod]; exact Nat.mod_eq_of_lt hb⟩
  obtain ⟨e1, e2⟩ := e (m - 1 - c) (q - 1 - r) (by omega)
  obtain ⟨e3, e4⟩ := e (m - 1 - c') (q - 1 - r') (by omega)
  rw [h] at e1 e2
  omega
/-- the rows before r, and the first c columns of row r, are in the reflected grid -/
def Filled (z g : Nat → Int) (m q r c : Nat) : Prop := ∀ r' c', r' < q → c' < m → (r' < r ∨ (r' = r ∧ c' < c)) → g (tIx m q r' c') = z (r' * m + c')
def upd (g : Nat → Int) (i : Nat) (v : Int) : Nat → Int := fun j => if j = i then v else g j
theorem fill_start (z g : Nat → Int) (m q : Nat) : Filled z g m q 0 0 := fun r' c' _ _ h => by omega
theorem fill_step {z g : Nat → Int} {m q r c : Nat} (h : Filled z g m q r c) (hr : r < q) (hc : c < m) : Filled z (upd g (tIx m q r c) (z (r * m + c))) m q r (c + 1) := by
  intro r' c' h1 h2 h3
  unfold upd
  by_cases e : tIx m q r' c' = tIx m q r c
  · obtain ⟨rfl, rfl⟩ := tIx_inj h1 h2 hr hc e
    rw [if_pos rfl]
  · rw [if_neg e]
    refine h r' c' h1 h2 ?_
    rcases h3 with h3 | ⟨rfl, h3⟩
    · exact .inl h3
    · right
      refine ⟨rfl, ?_⟩
      rcases Nat.lt_or_ge c' c with h4 | h4
      · exact h4
      · exact absurd (show tIx m q r' c' = tIx m q r' c by rw [show c' = c by omega]) e
theorem fill_row {z g : Nat → Int} {m q r : Nat} (h : Filled z g m q r m) : Filled z g m q (r + 1) 0 := fun r' c' h1 h2 h3 => h r' c' h1 h2 (by omega)
/-- the shade of a cell is that of its image -/
theorem mirrored {x y S : Int} {n m q : Nat} {z g : Nat → Int} {col row : Int} (hF : Filled z g m q q 0) (h : chk x y m q S n z = 0) (h2 : chk 0 0 q m S n g = 0) (h' : In2 m q col row) :
    slE x y m q S n z col row = 0 ∧ slE 0 0 q m S n g ((q : Int) - 2 - row) ((m : Int) - 2 - col) = 0 ∧ shV 0 0 q m S n g ((q : Int) - 2 - row) ((m : Int) - 2 - col) = shV x y m q S n z col row := by
  have h3 : In2 q m ((q : Int) - 2 - row) ((m : Int) - 2 - col) := by
    obtain ⟨⟨a, b⟩, c, d⟩ := h'
    exact ⟨⟨by omega, by omega⟩, by omega, by omega⟩
  obtain ⟨e1, e2, e3⟩ := sl_in h h'
  obtain ⟨f1, f2, f3⟩ := sl_in h2 h3
  obtain ⟨⟨c1, c2⟩, r1, r2⟩ := h'
  obtain ⟨C, rfl⟩ := Int.eq_ofNat_of_zero_le c1
  obtain ⟨R, rfl⟩ := Int.eq_ofNat_of_zero_le r1
  have i1 : ((R : Int) * m + C).toNat = R * m + C := by
    have : (R : Int) * m + C = ((R * m + C : Nat) : Int) := by push_cast; rfl
    rw [this]; rfl
  obtain ⟨C', hC⟩ : ∃ C' : Nat, (q : Int) - 2 - R = C' := ⟨q - 2 - R, by omega⟩
  obtain ⟨R', hR⟩ : ∃ R' : Nat, (m : Int) - 2 - C = R' := ⟨m - 2 - C, by omega⟩
  have i2 : ((R' : Int) * q + C').toNat = R' * q + C' := by
    have : (R' : Int) * q + C' = ((R' * q + C' : Nat) : Int) := by push_cast; rfl
    rw [this]; rfl
  rw [hC, hR] at f1 f2 f3 ⊢
  refine ⟨e1, f1, ?_⟩
  unfold shV
  rw [if_pos e1, if_pos f1, e2, e3, f2, f3, i1, i2]
  have t1 := hF (R + 1) (C + 1) (by omega) (by omega) (by omega)
  have t2 := hF R (C + 1) (by omega) (by omega) (by omega)
  have t3 := hF (R + 1) C (by omega) (by omega) (by omega)
  have t4 := hF R C (by omega) (by omega) (by omega)
  have j1 : tIx m q (R + 1) (C + 1) = R' * q + C' := by unfold tIx; rw [show m - 1 - (C + 1) = R' by omega, show q - 1 - (R + 1) = C' by omega]
  have j2 : tIx m q R (C + 1) = R' * q + C' + 1 := by unfold tIx; rw [show m - 1 - (C + 1) = R' by omega, show q - 1 - R = C' + 1 by omega]; rfl
  have j3 : tIx m q (R + 1) C = R' * q + C' + q := by unfold tIx; rw [show m - 1 - C = R' + 1 by omega, show q - 1 - (R + 1) = C' by omega, Nat.add_mul, Nat.one_mul]; omega
  have j4 : tIx m q R C = R' * q + C' + q + 1 := by unfold tIx; rw [show m - 1 - C = R' + 1 by omega, show q - 1 - R = C' + 1 by omega, Nat.add_mul, Nat.one_mul]; omega
  rw [j1, show (R + 1) * m + (C + 1) = R * m + C + m + 1 by rw [Nat.add_mul, Nat.one_mul]; omega] at t1
  rw [j2, show R * m + (C + 1) = R * m + C + 1 by omega] at t2
  rw [j3, show (R + 1) * m + C = R * m + C + m by rw [Nat.add_mul, Nat.one_mul]; omega] at t3
  rw [j4] at t4
  have dx : dxF g q (R' * q + C') = -dyF z m (R * m + C) := by unfold dxF dyF; omega
  have dy : dyF g q (R' * q + C') = -dxF z m (R * m + C) := by unfold dxF dyF; omega
  rw [show ((q : Int)).toNat = q by omega, show ((m : Int)).toNat = m by omega, dx, dy]
  unfold shF
  rw [show -dyF z m (R * m + C) - -dxF z m (R * m + C) = dxF z m (R * m + C) - dyF z m (R * m + C) by omega]
  congr 2
  omega
end Go.Proofs.Ythgdmcjahldihaa.Ter
