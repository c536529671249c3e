/- Plain words for relief: slopes and shades of cells. -/
import Derived.Test.YthgdmcjahldihaaTerPlain
import Derived.Test.YthgdmcjahldihaaNumPlain
namespace Go.Proofs.Ythgdmcjahldihaa.Ter
open Num (rnd fl fl_spec_pos)
theorem rnd_small {a b : Int} (hb : 0 < b) (h1 : -(50 * b) ≤ a) (h2 : a ≤ 50 * b) : -50 ≤ rnd a b ∧ rnd a b ≤ 50 := by
  obtain ⟨s1, s2⟩ := fl_spec_pos (2 * a + b) (b := 2 * b) (by omega)
  unfold rnd
  generalize fl (2 * a + b) (2 * b) = q at *
  have u1 : (2 * b) * q < (2 * b) * 51 := by omega
  have u2 : (2 * b) * (-51) < (2 * b) * q := by omega
  have v1 := Int.lt_of_mul_lt_mul_left u1 (by omega)
  have v2 := Int.lt_of_mul_lt_mul_left u2 (by omega)
  omega
def dxF (z : Nat → Int) (m i : Nat) : Int := z (i + 1) + z (i + m + 1) - z i - z (i + m)
def dyF (z : Nat → Int) (m i : Nat) : Int := z (i + m) + z (i + m + 1) - z i - z (i + 1)
/-- the errors of Slope and Shade, and what they return -/
def In2 (W H col row : Int) : Prop := (0 ≤ col ∧ col ≤ W - 2) ∧ (0 ≤ row ∧ row ≤ H - 2)
instance (W H col row : Int) : Decidable (In2 W H col row) := by unfold In2; infer_instance
def slE (x y W H S : Int) (n : Nat) (z : Nat → Int) (col row : Int) : Int :=
  if chk x y W H S n z = 0 then (if In2 W H col row then 0 else 2) else chk x y W H S n z
def slX (x y W H S : Int) (n : Nat) (z : Nat → Int) (col row : Int) : Int :=
  if slE x y W H S n z col row = 0 then dxF z W.toNat (row * W + col).toNat else 0
def slY (x y W H S : Int) (n : Nat) (z : Nat → Int) (col row : Int) : Int :=
  if slE x y W H S n z col row = 0 then dyF z W.toNat (row * W + col).toNat else 0
def shF (dx dy S : Int) : Int := 50 - rnd (50 * (dx - dy)) (max dx (-dx) + max dy (-dy) + 4 * S)
def shV (x y W H S : Int) (n : Nat) (z : Nat → Int) (col row : Int) : Int :=
  if slE x y W H S n z col row = 0 then shF (slX x y W H S n z col row) (slY x y W H S n z col row) S else 0

theorem sl_err {x y W H S : Int} {n : Nat} {z : Nat → Int} {col row : Int} (h : chk x y W H S n z ≠ 0) :
    slE x y W H S n z col row = chk x y W H S n z ∧ slX x y W H S n z col row = 0 ∧ slY x y W H S n z col row = 0 := by
  have e : slE x y W H S n z col row = chk x y W H S n z := by unfold slE; rw [if_neg h]
  refine ⟨e, ?_, ?_⟩
  · unfold slX; rw [e, if_neg h]
  · unfold slY; rw [e, if_neg h]
theorem sl_out {x y W H S : Int} {n : Nat} {z : Nat → Int} {col row : Int} (h : chk x y W H S n z = 0) (h' : ¬ In2 W H col row) :
    slE x y W H S n z col row = 2 ∧ slX x y W H S n z col row = 0 ∧ slY x y W H S n z col row = 0 := by
  have e : slE x y W H S n z col row = 2 := by unfold slE; rw [if_pos h, if_neg h']
  refine ⟨e, ?_, ?_⟩
  · unfold slX; rw [e]; rfl
  · unfold slY; rw [e]; rfl
theorem sl_in {x y W H S : Int} {n : Nat} {z : Nat → Int} {col row : Int} (h : chk x y W H S n z = 0) (h' : In2 W H col row) :
    slE x y W H S n z col row = 0 ∧ slX x y W H S n z col row = dxF z W.toNat (row * W + col).toNat ∧ slY x y W H S n z col row = dyF z W.toNat (row * W + col).toNat := by
  have e : slE x y W H S n z col row = 0 := by unfold slE; rw [if_pos h, if_pos h']
  refine ⟨e, ?_, ?_⟩
  · unfold slX; rw [e]; rfl
  · unfold slY; rw [e]; rfl
/-- the four corners of a cell are in the grid -/
theorem corner {m h k r n : Nat} (hn : n = m * h) (hk : k + 2 ≤ m) (hr : r + 2 ≤ h) : r * m + k + m + 1 < n := by
  have h1 : (r + 2) * m ≤ h * m := Nat.mul_le_mul_right m hr
  rw [Nat.add_mul, Nat.mul_comm h m, ← hn] at h1
  omega
theorem dx_range {z : Nat → Int} {n m i : Nat} (hz : Low n z) (hi : i + m + 1 < n) : (-40000 ≤ dxF z m i ∧ dxF z m i ≤ 40000) ∧ (-40000 ≤ dyF z m i ∧ dyF z m i ≤ 40000) := by
  have h0 := hz i (by omega)
  have h1 := hz (i + 1) (by omega)
  have h2 := hz (i + m) (by omega)
  have h3 := hz (i + m + 1) hi
  unfold dxF dyF
  omega
/-- the shades of a grid, row by row: of the cell in column k and row r, and of the t-th cell -/
def cellF (z : Nat → Int) (m : Nat) (S : Int) (k r : Nat) : Int := shF (dxF z m (r * m + k)) (dyF z m (r * m + k)) S
def cellAt (z : Nat → Int) (m : Nat) (S : Int) (t : Nat) : Int := cellF z m S (t % (m - 1)) (t / (m - 1))
theorem cellAt_eq (z : Nat → Int) {m : Nat} (S : Int) {k r : Nat} (hk : k < m - 1) : cellAt z m S (r * (m - 1) + k) = cellF z m S k r := by
  unfold cellAt
  have e1 : (r * (m - 1) + k) % (m - 1) = k := by rw [Nat.mul_comm, Nat.mul_add_mod]; exact Nat.mod_eq_of_lt hk
  have e2 : (r * (m - 1) + k) / (m - 1) = r := by rw [Nat.mul_comm, Nat.mul_add_div (by omega), Nat.div_eq_of_lt hk]; rfl
  rw [e1, e2]
end Go.Proofs.Ythgdmcjahldihaa.Ter
