/- Plain words for layer ink: the cells of a segment. No program in sight. -/
import Derived.Test.YtjclioakdmilmaaNumPlain
set_option linter.unusedVariables false
namespace Go.Proofs.Ytjclioakdmilmaa.Ink
open Num
/-- a coordinate of drawing -/
def nr (x y : Int) : Bool := (decide (-4096 ≤ x) && decide (x ≤ 4096)) && (decide (-4096 ≤ y) && decide (y ≤ 4096))
theorem nr_iff (x y : Int) : nr x y = true ↔ (-4096 ≤ x ∧ x ≤ 4096 ∧ -4096 ≤ y ∧ y ≤ 4096) := by unfold nr; simp; omega
theorem nr_cases (x y : Int) : (nr x y = true ∧ -4096 ≤ x ∧ x ≤ 4096 ∧ -4096 ≤ y ∧ y ≤ 4096) ∨ (nr x y = false ∧ (x < -4096 ∨ (-4096 ≤ x ∧ 4096 < x) ∨ (-4096 ≤ x ∧ x ≤ 4096 ∧ y < -4096) ∨ (-4096 ≤ x ∧ x ≤ 4096 ∧ -4096 ≤ y ∧ 4096 < y))) := by
  cases h : nr x y
  · refine .inr ⟨rfl, ?_⟩
    have : ¬ (-4096 ≤ x ∧ x ≤ 4096 ∧ -4096 ≤ y ∧ y ≤ 4096) := fun g => by rw [(nr_iff x y).2 g] at h; cases h
    omega
  · have := (nr_iff x y).1 h
    exact .inl ⟨rfl, this⟩
/-- how long a segment is in steps -/
def stp (ax ay bx by_ : Int) : Int := max (max (bx - ax) (-(bx - ax))) (max (by_ - ay) (-(by_ - ay)))
/-- is it wider than high -/
def wide (ax ay bx by_ : Int) : Bool := decide (max (by_ - ay) (-(by_ - ay)) ≤ max (bx - ax) (-(bx - ax)))
def sg (d : Int) : Int := if d < 0 then -1 else 1
/-- the cell number i of a segment -/
def celP (ax ay bx by_ i : Int) : Int × Int :=
  if wide ax ay bx by_ = true then (ax + i * sg (bx - ax), ay + rnd (i * (by_ - ay)) (stp ax ay bx by_))
  else (ax + rnd (i * (bx - ax)) (stp ax ay bx by_), ay + i * sg (by_ - ay))
/-- the first k cells -/
def celK (ax ay bx by_ : Int) : Nat → List (Int × Int)
  | 0 => []
  | k + 1 => celK ax ay bx by_ k ++ [celP ax ay bx by_ k]
/-- the cells of a segment -/
def cels (ax ay bx by_ : Int) : List (Int × Int) :=
  if nr ax ay = true ∧ nr bx by_ = true then celK ax ay bx by_ ((stp ax ay bx by_).toNat + 1) else []
theorem celK_len (ax ay bx by_ : Int) (k : Nat) : (celK ax ay bx by_ k).length = k := by
  induction k with
  | zero => rfl
  | succ k ih => simp [celK, ih]
theorem celK_get (ax ay bx by_ : Int) (k j : Nat) (h : j < (celK ax ay bx by_ k).length) : (celK ax ay bx by_ k)[j] = celP ax ay bx by_ j := by
  induction k with
  | zero => simp [celK] at h
  | succ k ih =>
    have hl := celK_len ax ay bx by_ k
    simp only [celK]
    by_cases hj : j < k
    · rw [List.getElem_append_left (by omega)]
      exact ih (by omega)
    · have hj' : j = k := by have := celK_len ax ay bx by_ (k + 1); omega
      subst hj'
      rw [List.getElem_append_right (by omega)]
      simp [hl]
/-- the step of one cell along a way that is as long as the segment -/
theorem sg_tdiv {d n : Int} (hn : 0 < n) (h : n = max d (-d)) : d.tdiv n = sg d ∧ d = sg d * n := by
  unfold sg
  by_cases hd : d < 0
  · have e : n = -d := by omega
    subst e
    rw [if_pos hd]
    refine ⟨?_, by omega⟩
    rw [Int.tdiv_neg, Int.tdiv_self (by omega)]
  · have e : n = d := by omega
    subst e
    rw [if_neg hd]
    exact ⟨Int.tdiv_self (by omega), by omega⟩
theorem fl_nn (a b : Int) (hb : b ≠ 0) : fl (-a) (-b) = fl a b := by
  by_cases h : 0 < b
  · obtain ⟨s1, s2⟩ := fl_spec_pos a h
    refine fl_neg (by omega) ?_ ?_ <;> rw [Int.neg_mul] <;> omega
  · obtain ⟨s1, s2⟩ := fl_spec_neg a (b := b) (by omega)
    refine fl_pos (by omega) ?_ ?_ <;> rw [Int.neg_mul] <;> omega
theorem rnd_nn (x m : Int) (h : m ≠ 0) : rnd (-x) (-m) = rnd x m := by
  unfold rnd
  rw [show 2 * (-x) + (-m) = -(2 * x + m) by omega, show 2 * (-m) = -(2 * m) by omega, fl_nn _ _ (by omega)]
/-- the other coordinate, as the program reckons it -/
theorem rnd_sg {e d n i : Int} (hn : 0 < n) (h : n = max d (-d)) : rnd (e * (i * sg d)) d = rnd (i * e) n := by
  obtain ⟨-, k⟩ := sg_tdiv hn h
  unfold sg at *
  by_cases hd : d < 0
  · rw [if_pos hd] at *
    have e1 : n = -d := by omega
    rw [e1, ← rnd_nn (i * e) (-d) (by omega), Int.neg_neg]
    congr 1
    rw [Int.mul_neg, Int.mul_one, Int.mul_neg, Int.mul_comm]
  · rw [if_neg hd] at *
    have e1 : n = d := by omega
    rw [e1, Int.mul_one, Int.mul_comm]
theorem rnd_00 : rnd 0 0 = 0 := by decide
theorem cels_same {ax ay : Int} (h : nr ax ay = true) : cels ax ay ax ay = [(ax, ay)] := by
  unfold cels
  rw [if_pos ⟨h, h⟩]
  have e : stp ax ay ax ay = 0 := by unfold stp; omega
  rw [e]
  show celK ax ay ax ay 1 = _
  unfold celK celK celP wide
  rw [e, Int.sub_self, Int.sub_self]
  simp [rnd_00]
theorem cels_far {ax ay bx by_ : Int} (h : ¬ (nr ax ay = true ∧ nr bx by_ = true)) : cels ax ay bx by_ = [] := by unfold cels; rw [if_neg h]
theorem cels_near {ax ay bx by_ : Int} (h : nr ax ay = true) (h' : nr bx by_ = true) : cels ax ay bx by_ = celK ax ay bx by_ ((stp ax ay bx by_).toNat + 1) := by unfold cels; rw [if_pos ⟨h, h'⟩]
end Go.Proofs.Ytjclioakdmilmaa.Ink
