/- Plain words for layer geom: a point on a segment. No program in sight. -/
import Derived.Test.YtkojdifgmppfpaaGeoPlain
set_option linter.unusedVariables false
namespace Go.Proofs.Ytkojdifgmppfpaa.Geo
def inb (ax ay bx by_ cx cy : Int) : Bool := decide (min ax bx ≤ cx) && decide (cx ≤ max ax bx) && decide (min ay by_ ≤ cy) && decide (cy ≤ max ay by_)
def onF (ax ay bx by_ cx cy : Int) : Bool := nearL [(ax, ay), (bx, by_), (cx, cy)] && decide (tw ax ay bx by_ cx cy = 0) && inb ax ay bx by_ cx cy
theorem sq_nonneg (a : Int) : 0 ≤ a * a := by
  rcases Int.le_total 0 a with h | h
  · exact Int.mul_nonneg h h
  · exact Int.mul_nonneg_of_nonpos_of_nonpos h h
/-- v lies between 0 and u -/
theorem btw_iff (u v : Int) : v * (v - u) ≤ 0 ↔ (min 0 u ≤ v ∧ v ≤ max 0 u) := by
  constructor
  · intro h
    rcases Int.lt_or_le v 0 with hv | hv
    · have : ¬ v < u := fun h1 => by
        have := Int.mul_pos_of_neg_of_neg hv (show v - u < 0 by omega); omega
      omega
    · rcases Int.lt_or_eq_of_le hv with hv | hv
      · have : ¬ u < v := fun h1 => by
          have := Int.mul_pos hv (show 0 < v - u by omega); omega
        omega
      · omega
  · rintro ⟨h1, h2⟩
    rcases Int.lt_trichotomy v 0 with hv | hv | hv
    · exact Int.mul_nonpos_of_nonpos_of_nonneg (by omega) (by omega)
    · subst hv; rw [Int.zero_mul]; omega
    · exact Int.mul_nonpos_of_nonneg_of_nonpos (by omega) (by omega)
/-- parallel parts: both coordinates lie between, or their sum does not -/
theorem par_dot {ux uy vx vy : Int} (hc : ux * vy = uy * vx) : vx * (vx - ux) + vy * (vy - uy) ≤ 0 ↔ (vx * (vx - ux) ≤ 0 ∧ vy * (vy - uy) ≤ 0) := by
  constructor
  · intro h
    have key : (ux * ux) * (vy * (vy - uy)) = (uy * uy) * (vx * (vx - ux)) := by grind
    have s1 := sq_nonneg ux
    have s2 := sq_nonneg uy
    generalize hT : vx * (vx - ux) = T at *
    generalize hS : vy * (vy - uy) = S at *
    have z : ∀ {q : Int}, q * q = 0 → q = 0 := fun h => by rcases Int.mul_eq_zero.1 h with h | h <;> exact h
    constructor
    · apply Classical.byContradiction; intro hx
      have hT0 : 0 < T := by omega
      have hS0 : S < 0 := by omega
      have a1 : ux * ux * S ≤ 0 := Int.mul_nonpos_of_nonneg_of_nonpos s1 (by omega)
      have a2 : 0 ≤ uy * uy * T := Int.mul_nonneg s2 (by omega)
      have a3 : uy * uy * T = 0 := by omega
      have a4 : ux * ux * S = 0 := by omega
      have b1 : uy = 0 := by rcases Int.mul_eq_zero.1 a3 with h | h; exact z h; omega
      have b2 : ux = 0 := by rcases Int.mul_eq_zero.1 a4 with h | h; exact z h; omega
      subst b1
      rw [Int.sub_zero] at hS
      have := sq_nonneg vy
      omega
    · apply Classical.byContradiction; intro hx
      have hS0 : 0 < S := by omega
      have hT0 : T < 0 := by omega
      have a1 : 0 ≤ ux * ux * S := Int.mul_nonneg s1 (by omega)
      have a2 : uy * uy * T ≤ 0 := Int.mul_nonpos_of_nonneg_of_nonpos s2 (by omega)
      have a3 : uy * uy * T = 0 := by omega
      have a4 : ux * ux * S = 0 := by omega
      have b1 : uy = 0 := by rcases Int.mul_eq_zero.1 a3 with h | h; exact z h; omega
      have b2 : ux = 0 := by rcases Int.mul_eq_zero.1 a4 with h | h; exact z h; omega
      subst b2
      rw [Int.sub_zero] at hT
      have := sq_nonneg vx
      omega
  · rintro ⟨h1, h2⟩; omega
/-- the reference's test of a point of the line -/
theorem on_dot {ax ay bx by_ cx cy : Int} (hc : tw ax ay bx by_ cx cy = 0) : dt ax ay cx cy bx by_ cx cy ≤ 0 ↔ inb ax ay bx by_ cx cy = true := by
  have h : (bx - ax) * (cy - ay) = (by_ - ay) * (cx - ax) := by unfold tw at hc; omega
  have e : dt ax ay cx cy bx by_ cx cy = (cx - ax) * ((cx - ax) - (bx - ax)) + (cy - ay) * ((cy - ay) - (by_ - ay)) := by
    unfold dt
    rw [show (cx - ax) - (bx - ax) = cx - bx by omega, show (cy - ay) - (by_ - ay) = cy - by_ by omega]
  rw [e, par_dot h, btw_iff, btw_iff]
  unfold inb
  simp only [Bool.and_eq_true, decide_eq_true_eq]
  omega
end Go.Proofs.Ytkojdifgmppfpaa.Geo
