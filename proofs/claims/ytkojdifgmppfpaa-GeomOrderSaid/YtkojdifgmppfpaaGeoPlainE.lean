/- The order of directions: asymmetric, transitive, its ties transitive. Plain laws. -/
import Derived.Test.YtkojdifgmppfpaaGeoPlainC
namespace Go.Proofs.Ytkojdifgmppfpaa.Geo
/-- in a half plane the sign of the cross product is transitive -/
theorem up_trans {ux uy vx vy wx wy : Int} (hu : 0 < uy ∨ (uy = 0 ∧ 0 < ux)) (hv : 0 < vy ∨ (vy = 0 ∧ 0 < vx)) (hw : 0 < wy ∨ (wy = 0 ∧ 0 < wx))
    (h1 : 0 < ux * vy - uy * vx) (h2 : 0 < vx * wy - vy * wx) : 0 < ux * wy - uy * wx := by
  rcases hv with hv | ⟨rfl, hv⟩
  · have id : vy * (ux * wy - uy * wx) = wy * (ux * vy - uy * vx) + uy * (vx * wy - vy * wx) := by grind
    have hp : 0 < wy * (ux * vy - uy * vx) + uy * (vx * wy - vy * wx) := by
      rcases hw with hw | ⟨rfl, hw⟩
      · have a1 := Int.mul_pos hw h1
        have a2 : 0 ≤ uy * (vx * wy - vy * wx) := Int.mul_nonneg (by omega) (by omega)
        generalize wy * (ux * vy - uy * vx) = a at *
        generalize uy * (vx * wy - vy * wx) = b at *
        omega
      · have := Int.mul_pos hv hw
        simp only [Int.mul_zero] at h2
        omega
    apply Int.lt_of_mul_lt_mul_left (a := vy) _ (by omega)
    rw [id, Int.mul_zero]; exact hp
  · have h3 : 0 ≤ uy * vx := Int.mul_nonneg (by omega) (by omega)
    simp only [Int.mul_zero] at h1
    omega
theorem lw_false {ox oy px py : Int} (h : lw ox oy px py = false) (hn : eqP px py ox oy = false) : 0 < py - oy ∨ (py - oy = 0 ∧ 0 < px - ox) := by
  simp [lw, eqP] at h hn; omega
theorem lw_true {ox oy px py : Int} (h : lw ox oy px py = true) : 0 < oy - py ∨ (oy - py = 0 ∧ 0 < ox - px) := by
  simp [lw] at h; omega
theorem lsF_true {ox oy ax ay bx by_ : Int} (h : lsF ox oy ax ay bx by_ = true) : nearL [(ox, oy), (ax, ay), (bx, by_)] = true ∧ eqP ax ay ox oy = false ∧ eqP bx by_ ox oy = false ∧
    ((lw ox oy ax ay = lw ox oy bx by_ ∧ 0 < tw ox oy ax ay bx by_) ∨ (lw ox oy ax ay = false ∧ lw ox oy bx by_ = true)) := by
  unfold lsF at h
  split at h
  next hc =>
    refine ⟨hc.1, hc.2.1, hc.2.2, ?_⟩
    split at h
    next he => exact Or.inl ⟨he, by simpa using h⟩
    next he => rw [h] at he ⊢; exact Or.inr ⟨by simpa using he, rfl⟩
  next => cases h
theorem tw_flip (ox oy ax ay bx by_ : Int) : tw ox oy bx by_ ax ay = -tw ox oy ax ay bx by_ := by unfold tw; grind
theorem ls_asym {ox oy ax ay bx by_ : Int} (h : lsF ox oy ax ay bx by_ = true) : lsF ox oy bx by_ ax ay = false := by
  cases h2 : lsF ox oy bx by_ ax ay
  · rfl
  · obtain ⟨-, -, -, h3⟩ := lsF_true h
    obtain ⟨-, -, -, h4⟩ := lsF_true h2
    rw [tw_flip] at h4
    rcases h3 with ⟨e1, h3⟩ | ⟨e1, h3⟩ <;> rcases h4 with ⟨e2, h4⟩ | ⟨e2, h4⟩
    · omega
    · rw [e2, h4] at e1; cases e1
    · rw [e1, h3] at e2; cases e2
    · rw [e1] at h4; cases h4
theorem ls_irr (ox oy ax ay : Int) : lsF ox oy ax ay ax ay = false := by
  cases h : lsF ox oy ax ay ax ay
  · rfl
  · have := ls_asym h; rw [h] at this; exact this
theorem ls_trans {ox oy ax ay bx by_ cx cy : Int} (h1 : lsF ox oy ax ay bx by_ = true) (h2 : lsF ox oy bx by_ cx cy = true) : lsF ox oy ax ay cx cy = true := by
  obtain ⟨n1, a1, b1, h1⟩ := lsF_true h1
  obtain ⟨n2, a2, b2, h2⟩ := lsF_true h2
  have n3 : nearL [(ox, oy), (ax, ay), (cx, cy)] = true := by
    rw [near3_iff] at *; exact ⟨n1.1, n1.2.1, n2.2.2⟩
  unfold lsF
  rw [if_pos ⟨n3, a1, b2⟩]
  rcases h1 with ⟨e1, h1⟩ | ⟨e1, h1⟩ <;> rcases h2 with ⟨e2, h2⟩ | ⟨e2, h2⟩
  · rw [if_pos (e1.trans e2)]
    apply decide_eq_true
    cases hl : lw ox oy bx by_
    · rw [hl] at e1 e2
      have r := up_trans (lw_false e1 a1) (lw_false hl b1) (lw_false e2.symm b2) h1 h2
      exact r
    · rw [hl] at e1 e2
      have r := up_trans (ux := ox - ax) (vx := ox - bx) (wx := ox - cx) (lw_true e1) (lw_true hl) (lw_true e2.symm) (by unfold tw at h1; grind) (by unfold tw at h2; grind)
      unfold tw; grind
  · rw [e1, e2, h2]; rfl
  · rw [← e2, h1, e1]; rfl
  · rw [e2] at h1; cases h1
theorem ls_tie {ox oy ax ay bx by_ : Int} (hn : nearL [(ox, oy), (ax, ay), (bx, by_)] = true) (ha : eqP ax ay ox oy = false) (hb : eqP bx by_ ox oy = false) :
    (lsF ox oy ax ay bx by_ = false ∧ lsF ox oy bx by_ ax ay = false) ↔ (lw ox oy ax ay = lw ox oy bx by_ ∧ tw ox oy ax ay bx by_ = 0) := by
  have hx := (near3_iff _ _ _ _ _ _).mp hn
  have hn2 : nearL [(ox, oy), (bx, by_), (ax, ay)] = true := (near3_iff _ _ _ _ _ _).mpr ⟨hx.1, hx.2.2, hx.2.1⟩
  unfold lsF
  rw [if_pos (And.intro hn (And.intro ha hb)), if_pos (And.intro hn2 (And.intro hb ha)), tw_flip ox oy ax ay bx by_]
  generalize tw ox oy ax ay bx by_ = t
  by_cases he : lw ox oy ax ay = lw ox oy bx by_
  · rw [if_pos he, if_pos he.symm]
    simp only [decide_eq_false_iff_not]
    constructor
    · rintro ⟨h1, h2⟩; exact ⟨he, by omega⟩
    · rintro ⟨-, h⟩; exact ⟨by omega, by omega⟩
  · rw [if_neg he, if_neg (fun h => he h.symm)]
    constructor
    · rintro ⟨h1, h2⟩; exact absurd (h2.trans h1.symm) he
    · rintro ⟨h, -⟩; exact absurd h he
theorem tw_par {ox oy ax ay bx by_ cx cy : Int} (hb : eqP bx by_ ox oy = false) (h1 : tw ox oy ax ay bx by_ = 0) (h2 : tw ox oy bx by_ cx cy = 0) : tw ox oy ax ay cx cy = 0 := by
  have i1 : (by_ - oy) * tw ox oy ax ay cx cy = (cy - oy) * tw ox oy ax ay bx by_ + (ay - oy) * tw ox oy bx by_ cx cy := by unfold tw; grind
  have i2 : (bx - ox) * tw ox oy ax ay cx cy = (cx - ox) * tw ox oy ax ay bx by_ + (ax - ox) * tw ox oy bx by_ cx cy := by unfold tw; grind
  rw [h1, h2] at i1 i2
  simp only [Int.mul_zero, Int.add_zero] at i1 i2
  rcases Int.mul_eq_zero.mp i1 with h | h
  · rcases Int.mul_eq_zero.mp i2 with g | g
    · simp [eqP] at hb; omega
    · exact g
  · exact h
/-- the law's equal -/
def eqv (ox oy ax ay bx by_ : Int) : Bool := !lsF ox oy ax ay bx by_ && !lsF ox oy bx by_ ax ay
theorem eqv_trans {ox oy ax ay bx by_ cx cy : Int} (hn : nearL [(ox, oy), (ax, ay), (bx, by_), (cx, cy)] = true) (ha : eqP ax ay ox oy = false) (hb : eqP bx by_ ox oy = false) (hc : eqP cx cy ox oy = false)
    (h1 : eqv ox oy ax ay bx by_ = true) (h2 : eqv ox oy bx by_ cx cy = true) : eqv ox oy ax ay cx cy = true := by
  obtain ⟨n0, n1, n2, n3⟩ := (near4_iff _ _ _ _ _ _ _ _).mp hn
  unfold eqv at *
  simp only [Bool.and_eq_true, Bool.not_eq_true'] at *
  rw [ls_tie ((near3_iff _ _ _ _ _ _).mpr ⟨n0, n1, n2⟩) ha hb] at h1
  rw [ls_tie ((near3_iff _ _ _ _ _ _).mpr ⟨n0, n2, n3⟩) hb hc] at h2
  rw [ls_tie ((near3_iff _ _ _ _ _ _).mpr ⟨n0, n1, n3⟩) ha hc]
  exact ⟨h1.1.trans h2.1, tw_par hb h1.2 h2.2⟩
end Go.Proofs.Ytkojdifgmppfpaa.Geo
