/- The reference's Meet is the program's. Plain laws. -/
import Derived.Test.YtpdiojndfckmfaaGeoPlainG
namespace Go.Proofs.Ytpdiojndfckmfaa.Geo
open Go.Proofs.Ytpdiojndfckmfaa
set_option linter.unusedVariables false
/-- between 0 and n -/
def btN (n u : Int) : Bool := if n < 0 then decide (0 ≤ -u) && decide (-u ≤ -n) else decide (0 ≤ u) && decide (u ≤ n)
/-- what the reference's Meet returns -/
def rmF (ax ay bx by_ cx cy dx dy : Int) : Int :=
  if nearL [(ax, ay), (bx, by_), (cx, cy), (dx, dy)] = true then
    (if eqP ax ay bx by_ = true ∧ eqP cx cy dx dy = true ∧ eqP ax ay cx cy = false then 0
     else if cr ax ay bx by_ cx cy dx dy = 0 then
       (if tw ax ay bx by_ cx cy ≠ 0 ∨ tw ax ay bx by_ dx dy ≠ 0 ∨ tw cx cy dx dy ax ay ≠ 0 ∨ tw cx cy dx dy bx by_ ≠ 0 then 0 else shF ax ay bx by_ cx cy dx dy)
     else b2i (btN (cr ax ay bx by_ cx cy dx dy) (cr ax ay cx cy cx cy dx dy) && btN (cr ax ay bx by_ cx cy dx dy) (cr ax ay cx cy ax ay bx by_)))
  else 0
theorem sgn_bt {n u : Int} (hn : n ≠ 0) : decide (sgn u * sgn (u - n) ≤ 0) = btN n u := by
  have sp : ∀ x : Int, 0 < x → sgn x = 1 := fun x h => if_pos h
  have sn : ∀ x : Int, x < 0 → sgn x = -1 := by intro x h; unfold sgn; rw [if_neg (by omega), if_pos h]
  have s0 : sgn 0 = 0 := by decide
  unfold btN
  rcases Int.lt_trichotomy u 0 with h1 | h1 | h1 <;> rcases Int.lt_trichotomy (u - n) 0 with h2 | h2 | h2
  · rw [sn _ h1, sn _ h2]; split <;> simp <;> omega
  · rw [sn _ h1, h2, s0]; split <;> simp <;> omega
  · rw [sn _ h1, sp _ h2]; split <;> simp <;> omega
  · rw [h1, s0, Int.zero_mul]; split <;> simp <;> omega
  · rw [h1, s0, Int.zero_mul]; split <;> simp <;> omega
  · rw [h1, s0, Int.zero_mul]; split <;> simp <;> omega
  · rw [sp _ h1, sn _ h2]; split <;> simp <;> omega
  · rw [sp _ h1, h2, s0]; split <;> simp <;> omega
  · rw [sp _ h1, sp _ h2]; split <;> simp <;> omega
theorem sgn_neg (t : Int) : sgn (-t) = -sgn t := by
  unfold sgn; split <;> split <;> (try split) <;> (try split) <;> omega
theorem lexin {ax ay bx by_ dx dy : Int} (ht : tw ax ay bx by_ dx dy = 0) (h1 : bf dx dy ax ay = false) (h2 : bf bx by_ dx dy = false) : inb ax ay bx by_ dx dy = true := by
  unfold inb
  unfold bf at *
  unfold tw at ht
  simp only [Bool.and_eq_true, decide_eq_true_eq, Bool.or_eq_false_iff, Bool.and_eq_false_imp, decide_eq_false_iff_not] at *
  by_cases hx : ax = bx
  · omega
  · have e : (bx - ax) * (dy - ay) = (by_ - ay) * (dx - ax) := by omega
    have hp : 0 < bx - ax := by omega
    have x0 : 0 ≤ dx - ax := by omega
    have x1 : 0 ≤ bx - dx := by omega
    have e2 : (bx - ax) * (by_ - dy) = (by_ - ay) * (bx - dx) := by grind
    rcases Int.le_total 0 (by_ - ay) with hq | hq
    · have a1 : 0 ≤ dy - ay := by
        apply Classical.byContradiction; intro hh
        have := Int.mul_nonneg hq x0
        have := Int.mul_neg_of_pos_of_neg hp (show dy - ay < 0 by omega)
        omega
      have a2 : 0 ≤ by_ - dy := by
        apply Classical.byContradiction; intro hh
        have := Int.mul_nonneg hq x1
        have := Int.mul_neg_of_pos_of_neg hp (show by_ - dy < 0 by omega)
        omega
      omega
    · have a1 : dy - ay ≤ 0 := by
        apply Classical.byContradiction; intro hh
        have := Int.mul_nonpos_of_nonpos_of_nonneg hq x0
        have := Int.mul_pos hp (show 0 < dy - ay by omega)
        omega
      have a2 : by_ - dy ≤ 0 := by
        apply Classical.byContradiction; intro hh
        have := Int.mul_nonpos_of_nonpos_of_nonneg hq x1
        have := Int.mul_pos hp (show 0 < by_ - dy by omega)
        omega
      omega
/-- shared of a point and a segment of its line -/
theorem sh_seg {ax ay cx cy dx dy : Int} (ht : tw cx cy dx dy ax ay = 0) : shF cx cy dx dy ax ay ax ay = b2i (inb cx cy dx dy ax ay) := by
  have irr : bf ax ay ax ay = false := by unfold bf; simp
  have key : ∀ px py qx qy : Int, bf qx qy px py = false → (inb cx cy dx dy ax ay = true ↔ bf ax ay px py = false ∧ bf qx qy ax ay = false) →
      (let f := if bf px py ax ay = true then (ax, ay) else (px, py); let l := if bf ax ay qx qy = true then (ax, ay) else (qx, qy); if f.1 = l.1 ∧ f.2 = l.2 then (1 : Int) else if bf f.1 f.2 l.1 l.2 = true then 2 else 0) = b2i (inb cx cy dx dy ax ay) := by
    intro px py qx qy h0 hi
    simp only
    cases hb : inb cx cy dx dy ax ay
    · have hn : ¬ (bf ax ay px py = false ∧ bf qx qy ax ay = false) := fun h => by rw [hi.mpr h] at hb; cases hb
      rw [show b2i false = 0 from rfl]
      unfold bf at *
      simp only [Bool.or_eq_false_iff, Bool.and_eq_false_imp, decide_eq_false_iff_not, decide_eq_true_eq, Bool.or_eq_true, Bool.and_eq_true] at *
      split <;> split
      all_goals
        dsimp only
        split
        · exfalso; omega
        · first
            | rfl
            | (split
               · exfalso; omega
               · rfl)
    · obtain ⟨h1, h2⟩ := hi.mp hb
      rw [show b2i true = 1 from rfl]
      unfold bf at *
      simp only [Bool.or_eq_false_iff, Bool.and_eq_false_imp, decide_eq_false_iff_not, decide_eq_true_eq, Bool.or_eq_true, Bool.and_eq_true] at *
      split <;> split
      all_goals
        dsimp only
        split
        · rfl
        · exfalso; omega
  have hcd : ∀ px py qx qy : Int, (px, py, qx, qy) = (if bf dx dy cx cy = true then (dx, dy, cx, cy) else (cx, cy, dx, dy)) → bf qx qy px py = false ∧ (inb cx cy dx dy ax ay = true ↔ bf ax ay px py = false ∧ bf qx qy ax ay = false) := by
    intro px py qx qy h
    split at h
    · next hb =>
      simp only [Prod.mk.injEq] at h
      obtain ⟨rfl, rfl, rfl, rfl⟩ := h
      have hs : inb qx qy px py ax ay = inb px py qx qy ax ay := by unfold inb; rw [Int.min_comm, Int.max_comm, Int.min_comm qy, Int.max_comm qy]
      have ht2 : tw px py qx qy ax ay = 0 := by unfold tw at *; grind
      have hb2 : bf qx qy px py = false := by unfold bf at *; simp at *; omega
      rw [hs]
      exact ⟨hb2, fun h => lexmid h ht2 hb2, fun h => lexin ht2 h.1 h.2⟩
    · next hb =>
      simp only [Prod.mk.injEq] at h
      obtain ⟨rfl, rfl, rfl, rfl⟩ := h
      have hb2 := Bool.eq_false_iff.mpr hb
      exact ⟨hb2, fun h => lexmid h ht hb2, fun h => lexin ht h.1 h.2⟩
  unfold shF
  obtain ⟨⟨px, py, qx, qy⟩, hp⟩ : ∃ z, z = (if bf dx dy cx cy = true then (dx, dy, cx, cy) else (cx, cy, dx, dy)) := ⟨_, rfl⟩
  rw [← hp, if_neg (show ¬ bf ax ay ax ay = true by rw [irr]; decide)]
  exact key px py qx qy (hcd _ _ _ _ hp).1 (hcd _ _ _ _ hp).2
theorem mx (ax ay px py : Int) : (if bf ax ay px py = true then (px, py) else (ax, ay)) = (if bf px py ax ay = true then (ax, ay) else (px, py)) := by
  unfold bf
  simp only [decide_eq_true_eq, Bool.or_eq_true, Bool.and_eq_true]
  split <;> split <;> first | rfl | (simp only [Prod.mk.injEq]; omega)
theorem mn (qx qy ax ay : Int) : (if bf qx qy ax ay = true then (qx, qy) else (ax, ay)) = (if bf ax ay qx qy = true then (ax, ay) else (qx, qy)) := by
  unfold bf
  simp only [decide_eq_true_eq, Bool.or_eq_true, Bool.and_eq_true]
  split <;> split <;> first | rfl | (simp only [Prod.mk.injEq]; omega)
theorem sh_swap (ax ay cx cy dx dy : Int) (ht : tw cx cy dx dy ax ay = 0) : shF ax ay ax ay cx cy dx dy = b2i (inb cx cy dx dy ax ay) := by
  rw [← sh_seg ht]
  unfold shF
  have irr : bf ax ay ax ay = false := by unfold bf; simp
  obtain ⟨⟨px, py, qx, qy⟩, hp⟩ : ∃ z, z = (if bf dx dy cx cy = true then (dx, dy, cx, cy) else (cx, cy, dx, dy)) := ⟨_, rfl⟩
  rw [← hp, if_neg (show ¬ bf ax ay ax ay = true by rw [irr]; decide)]
  clear hp irr ht
  dsimp only
  rw [mx ax ay px py, mn qx qy ax ay]
end Go.Proofs.Ytpdiojndfckmfaa.Geo
