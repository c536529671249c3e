/- Plain laws of shades: negated heights, raised heights, a reflected grid. -/
import Derived.Test.YthgdmcjahldihaaRelPlain
namespace Go.Proofs.Ythgdmcjahldihaa.Ter
open Num (rnd fl fl_spec_pos)
theorem rnd_sum {a b : Int} (hb : 0 < b) : rnd a b + rnd (-a) b = 0 ∨ rnd a b + rnd (-a) b = 1 := by
  obtain ⟨s1, s2⟩ := fl_spec_pos (2 * a + b) (b := 2 * b) (by omega)
  obtain ⟨s3, s4⟩ := fl_spec_pos (2 * (-a) + b) (b := 2 * b) (by omega)
  unfold rnd
  generalize fl (2 * a + b) (2 * b) = q at *
  generalize fl (2 * (-a) + b) (2 * b) = r at *
  have u1 : (2 * b) * (q + r) < (2 * b) * 2 := by rw [Int.mul_add]; omega
  have u2 : (2 * b) * (-1) < (2 * b) * (q + r) := by rw [Int.mul_add]; omega
  have v1 := Int.lt_of_mul_lt_mul_left u1 (by omega)
  have v2 := Int.lt_of_mul_lt_mul_left u2 (by omega)
  omega
theorem shF_neg {dx dy S : Int} (hS : 1 ≤ S) : shF dx dy S + shF (-dx) (-dy) S = 100 ∨ shF dx dy S + shF (-dx) (-dy) S = 99 := by
  unfold shF
  have e1 : 50 * (-dx - -dy) = -(50 * (dx - dy)) := by omega
  have e2 : max (-dx) (- -dx) = max dx (-dx) := by omega
  have e3 : max (-dy) (- -dy) = max dy (-dy) := by omega
  rw [e1, e2, e3]
  have := rnd_sum (a := 50 * (dx - dy)) (b := max dx (-dx) + max dy (-dy) + 4 * S) (by omega)
  omega
theorem shF_range {dx dy S : Int} (hS : 1 ≤ S) : 0 ≤ shF dx dy S ∧ shF dx dy S ≤ 100 := by
  unfold shF
  have := rnd_small (a := 50 * (dx - dy)) (b := max dx (-dx) + max dy (-dy) + 4 * S) (by omega) (by omega) (by omega)
  omega
theorem dx_neg (z : Nat → Int) (m i : Nat) : dxF (fun j => -z j) m i = -dxF z m i ∧ dyF (fun j => -z j) m i = -dyF z m i := by
  unfold dxF dyF; dsimp only; omega
theorem dx_raise (z : Nat → Int) (by' : Int) (m i : Nat) : dxF (fun j => z j + by') m i = dxF z m i ∧ dyF (fun j => z j + by') m i = dyF z m i := by
  unfold dxF dyF; dsimp only; omega
theorem cellAt_raise (z : Nat → Int) (by' : Int) (m : Nat) (S : Int) (t : Nat) : cellAt (fun j => z j + by') m S t = cellAt z m S t := by
  unfold cellAt cellF; rw [(dx_raise z by' m _).1, (dx_raise z by' m _).2]
theorem cellAt_range (z : Nat → Int) (m : Nat) {S : Int} (hS : 1 ≤ S) (t : Nat) : 0 ≤ cellAt z m S t ∧ cellAt z m S t ≤ 100 := by
  unfold cellAt cellF; exact shF_range hS
theorem chk_neg {x y W H S : Int} {n : Nat} {z : Nat → Int} (h : chk x y W H S n z = 0) : chk x y W H S n (fun j => -z j) = 0 := by
  obtain ⟨h1, h2, h3⟩ := chk_zero h
  exact chk_ok h1 h2 (fun j hj => by have := h3 j hj; constructor <;> omega)
/-- the shade of a cell with all heights negated -/
theorem shV_neg {x y W H S : Int} {n : Nat} {z : Nat → Int} {col row : Int} (h : chk x y W H S n z = 0) (h' : In2 W H col row) :
    (slE x y W H S n z col row = 0 ∧ slE x y W H S n (fun j => -z j) col row = 0) ∧ (0 ≤ shV x y W H S n z col row ∧ shV x y W H S n z col row ≤ 100) ∧ (0 ≤ shV x y W H S n (fun j => -z j) col row ∧ shV x y W H S n (fun j => -z j) col row ≤ 100) ∧
    (shV x y W H S n z col row + shV x y W H S n (fun j => -z j) col row = 100 ∨ shV x y W H S n z col row + shV x y W H S n (fun j => -z j) col row = 99) := by
  obtain ⟨e1, e2, e3⟩ := sl_in h h'
  obtain ⟨f1, f2, f3⟩ := sl_in (chk_neg h) h'
  obtain ⟨-, -, -, -, ⟨hS, -⟩, -, -⟩ := (chk_zero h).1
  refine ⟨⟨e1, f1⟩, ?_⟩
  unfold shV
  rw [if_pos e1, if_pos f1, e2, e3, f2, f3, (dx_neg z _ _).1, (dx_neg z _ _).2]
  exact ⟨shF_range hS, shF_range hS, shF_neg hS⟩
end Go.Proofs.Ythgdmcjahldihaa.Ter
