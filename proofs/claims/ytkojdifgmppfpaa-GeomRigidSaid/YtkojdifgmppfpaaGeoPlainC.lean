/- Plain words for layer geom: the order of directions, boxes. No program in sight. -/
import Derived.Test.YtkojdifgmppfpaaGeoPlainB
set_option linter.unusedVariables false
namespace Go.Proofs.Ytkojdifgmppfpaa.Geo
def bf (ax ay bx by_ : Int) : Bool := decide (ax < bx) || (decide (ax = bx) && decide (ay < by_))
def lw (ox oy px py : Int) : Bool := decide (py < oy) || (decide (py = oy) && decide (px < ox))
def eqP (ax ay bx by_ : Int) : Bool := decide (ax = bx) && decide (ay = by_)
def lsF (ox oy ax ay bx by_ : Int) : Bool :=
  if nearL [(ox, oy), (ax, ay), (bx, by_)] = true ∧ eqP ax ay ox oy = false ∧ eqP bx by_ ox oy = false then
    (if lw ox oy ax ay = lw ox oy bx by_ then decide (0 < tw ox oy ax ay bx by_) else lw ox oy bx by_)
  else false
def qt (x y : Int) : Int := if 0 < x ∧ 0 ≤ y then 0 else if x ≤ 0 ∧ 0 < y then 1 else if x < 0 then 2 else 3
/-- the reference's order of two directions is the program's -/
theorem qt_lw {ox oy ax ay bx by_ : Int} (ha : eqP ax ay ox oy = false) (hb : eqP bx by_ ox oy = false) :
    (decide (qt (ax - ox) (ay - oy) < qt (bx - ox) (by_ - oy)) || (decide (qt (ax - ox) (ay - oy) = qt (bx - ox) (by_ - oy)) && decide (0 < tw ox oy ax ay bx by_))) = (if lw ox oy ax ay = lw ox oy bx by_ then decide (0 < tw ox oy ax ay bx by_) else lw ox oy bx by_) := by
  have ha' : ¬ (ax - ox = 0 ∧ ay - oy = 0) := by
    intro h; unfold eqP at ha; simp at ha; have := ha (by omega); omega
  have hb' : ¬ (bx - ox = 0 ∧ by_ - oy = 0) := by
    intro h; unfold eqP at hb; simp at hb; have := hb (by omega); omega
  have e1 : lw ox oy ax ay = (decide (ay - oy < 0) || (decide (ay - oy = 0) && decide (ax - ox < 0))) := by
    unfold lw
    rw [show decide (ay < oy) = decide (ay - oy < 0) by congr 1; simp; omega, show decide (ay = oy) = decide (ay - oy = 0) by congr 1; simp; omega, show decide (ax < ox) = decide (ax - ox < 0) by congr 1; simp; omega]
  have e2 : lw ox oy bx by_ = (decide (by_ - oy < 0) || (decide (by_ - oy = 0) && decide (bx - ox < 0))) := by
    unfold lw
    rw [show decide (by_ < oy) = decide (by_ - oy < 0) by congr 1; simp; omega, show decide (by_ = oy) = decide (by_ - oy = 0) by congr 1; simp; omega, show decide (bx < ox) = decide (bx - ox < 0) by congr 1; simp; omega]
  have e3 : tw ox oy ax ay bx by_ = (ax - ox) * (by_ - oy) - (ay - oy) * (bx - ox) := rfl
  rw [e1, e2, e3]
  generalize ax - ox = ux at *
  generalize ay - oy = uy at *
  generalize bx - ox = vx at *
  generalize by_ - oy = vy at *
  clear e1 e2 e3 ha hb
  have P : ∀ {p q : Int}, 0 ≤ p → 0 ≤ q → 0 ≤ p * q := fun h k => Int.mul_nonneg h k
  have P1 : ∀ {p q : Int}, 0 < p → 0 < q → 0 < p * q := fun h k => Int.mul_pos h k
  have N : ∀ {p q : Int}, p ≤ 0 → 0 ≤ q → p * q ≤ 0 := fun h k => Int.mul_nonpos_of_nonpos_of_nonneg h k
  have N' : ∀ {p q : Int}, 0 ≤ p → q ≤ 0 → p * q ≤ 0 := fun h k => Int.mul_nonpos_of_nonneg_of_nonpos h k
  have M : ∀ {p q : Int}, p ≤ 0 → q ≤ 0 → 0 ≤ p * q := fun h k => Int.mul_nonneg_of_nonpos_of_nonpos h k
  have M1 : ∀ {p q : Int}, p < 0 → q < 0 → 0 < p * q := fun h k => Int.mul_pos_of_neg_of_neg h k
  have L1 : ∀ {p q : Int}, p < 0 → 0 < q → p * q < 0 := fun h k => Int.mul_neg_of_neg_of_pos h k
  have L2 : ∀ {p q : Int}, 0 < p → q < 0 → p * q < 0 := fun h k => Int.mul_neg_of_pos_of_neg h k
  have Q : ∀ x y : Int, ¬ (x = 0 ∧ y = 0) → (qt x y = 0 ∧ 0 < x ∧ 0 ≤ y) ∨ (qt x y = 1 ∧ x ≤ 0 ∧ 0 < y) ∨ (qt x y = 2 ∧ x < 0 ∧ y ≤ 0) ∨ (qt x y = 3 ∧ 0 ≤ x ∧ y < 0) := by
    intro x y h
    unfold qt
    repeat' split
    all_goals omega
  have lt : ∀ {p q : Int}, p < q → decide (p < q) = true := fun h => decide_eq_true h
  rcases Q ux uy ha' with ⟨a1, a2, a3⟩ | ⟨a1, a2, a3⟩ | ⟨a1, a2, a3⟩ | ⟨a1, a2, a3⟩ <;> rcases Q vx vy hb' with ⟨b1, b2, b3⟩ | ⟨b1, b2, b3⟩ | ⟨b1, b2, b3⟩ | ⟨b1, b2, b3⟩ <;> rw [a1, b1]
  all_goals
    have l1 : (decide (uy < 0) || (decide (uy = 0) && decide (ux < 0))) = decide (uy < 0 ∨ (uy = 0 ∧ ux < 0)) := by simp
    have l2 : (decide (vy < 0) || (decide (vy = 0) && decide (vx < 0))) = decide (vy < 0 ∨ (vy = 0 ∧ vx < 0)) := by simp
    rw [l1, l2]
    clear l1 l2
    first
      | rw [decide_eq_true (show uy < 0 ∨ (uy = 0 ∧ ux < 0) by omega)]
      | rw [decide_eq_false (show ¬ (uy < 0 ∨ (uy = 0 ∧ ux < 0)) by omega)]
    first
      | rw [decide_eq_true (show vy < 0 ∨ (vy = 0 ∧ vx < 0) by omega)]
      | rw [decide_eq_false (show ¬ (vy < 0 ∨ (vy = 0 ∧ vx < 0)) by omega)]
  · simp
  · have h1 := P1 a2 b3
    have h2 := N' a3 b2
    have : 0 < ux * vy - uy * vx := by omega
    simp; omega
  · simp
  · simp
  · have h1 := N a2 b3
    have h2 := P1 a3 b2
    simp; omega
  · simp
  · simp
  · simp
  · simp
  · simp
  · simp
  · have h1 := M1 a2 b3
    have h2 := N a3 b2
    simp; omega
  · simp
  · simp
  · have h1 := N' a2 b3
    have h2 := M1 a3 b2
    simp; omega
  · simp
def inB (x0 y0 x1 y1 px py : Int) : Bool := decide (x0 ≤ px) && decide (px ≤ x1) && decide (y0 ≤ py) && decide (py ≤ y1)
def ovF (x0 y0 x1 y1 u0 v0 u1 v1 : Int) : Bool := decide (max x0 u0 < min x1 u1) && decide (max y0 v0 < min y1 v1)
end Go.Proofs.Ytkojdifgmppfpaa.Geo
