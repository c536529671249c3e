/- A point of a segment is a point of another segment that ends there: Meet is positive. Plain laws. -/
import Derived.Test.YtpdiojndfckmfaaCutBase
import Derived.Test.YtpdiojndfckmfaaGeoI
namespace Go.Proofs.Ytpdiojndfckmfaa.Geo
open Go.Proofs.Ytpdiojndfckmfaa
theorem onF_true {ax ay bx by_ cx cy : Int} (h : onF ax ay bx by_ cx cy = true) : nearL [(ax, ay), (bx, by_), (cx, cy)] = true ∧ tw ax ay bx by_ cx cy = 0 ∧ inb ax ay bx by_ cx cy = true := by
  unfold onF at h; simp only [Bool.and_eq_true, decide_eq_true_eq] at h; exact ⟨h.1.1, h.1.2, h.2⟩
theorem on_end {ax ay bx by_ : Int} (hn : nearL [(ax, ay), (bx, by_), (bx, by_)] = true) : onF ax ay bx by_ bx by_ = true := by
  unfold onF inb
  simp only [Bool.and_eq_true, decide_eq_true_eq]
  exact ⟨⟨hn, by unfold tw; grind⟩, by omega⟩
theorem on_pt {ax ay cx cy : Int} (h : onF ax ay ax ay cx cy = true) : cx = ax ∧ cy = ay := by
  obtain ⟨-, -, h⟩ := onF_true h
  unfold inb at h
  simp only [Bool.and_eq_true, decide_eq_true_eq] at h
  omega
theorem lexmid {ax ay bx by_ dx dy : Int} (hi : inb ax ay bx by_ dx dy = true) (ht : tw ax ay bx by_ dx dy = 0) (hab : bf bx by_ ax ay = false) : bf dx dy ax ay = false ∧ bf bx by_ dx dy = false := by
  unfold inb at hi
  unfold bf at *
  unfold tw at ht
  simp only [Bool.and_eq_true, decide_eq_true_eq, Bool.or_eq_false_iff, Bool.and_eq_false_imp, decide_eq_false_iff_not] at *
  by_cases hx : ax = bx
  · omega
  · refine ⟨⟨by omega, fun he => ?_⟩, ⟨by omega, fun he => ?_⟩⟩
    · subst he
      rw [Int.sub_self, Int.mul_zero, Int.sub_zero] at ht
      rcases Int.mul_eq_zero.1 ht with a | a <;> omega
    · subst he
      have : (bx - ax) * (dy - by_) = 0 := by grind
      rcases Int.mul_eq_zero.1 this with a | a <;> omega
theorem sh_pos {ax ay bx by_ cx cy dx dy : Int} (hi : inb ax ay bx by_ dx dy = true) (ht : tw ax ay bx by_ dx dy = 0) : 0 < shF ax ay bx by_ cx cy dx dy := by
  have key : ∀ px py qx qy rx ry sx sy : Int, bf dx dy px py = false → bf qx qy dx dy = false → bf dx dy rx ry = false → bf sx sy dx dy = false →
      0 < (let f := if bf px py rx ry = true then (rx, ry) else (px, py); let l := if bf sx sy qx qy = true then (sx, sy) else (qx, qy); if f.1 = l.1 ∧ f.2 = l.2 then (1 : Int) else if bf f.1 f.2 l.1 l.2 = true then 2 else 0) := by
    intro px py qx qy rx ry sx sy h1 h2 h3 h4
    simp only
    have fl : ∀ fx fy lx ly : Int, bf dx dy fx fy = false → bf lx ly dx dy = false → 0 < (if fx = lx ∧ fy = ly then (1 : Int) else if bf fx fy lx ly = true then 2 else 0) := by
      intro fx fy lx ly g1 g2
      split
      · decide
      · split
        · decide
        · exfalso
          unfold bf at *
          simp only [Bool.or_eq_false_iff, Bool.and_eq_false_imp, decide_eq_false_iff_not, decide_eq_true_eq, Bool.or_eq_true, Bool.and_eq_true] at *
          omega
    split <;> split
    · exact fl _ _ _ _ h3 h4
    · exact fl _ _ _ _ h3 h2
    · exact fl _ _ _ _ h1 h4
    · exact fl _ _ _ _ h1 h2
  have hcd : ∀ rx ry sx sy : Int, (rx, ry, sx, sy) = (if bf dx dy cx cy = true then (dx, dy, cx, cy) else (cx, cy, dx, dy)) → bf dx dy rx ry = false ∧ bf sx sy dx dy = false := by
    intro rx ry sx sy h
    have irr : bf dx dy dx dy = false := by unfold bf; simp
    split at h
    · next hb =>
      simp only [Prod.mk.injEq] at h
      obtain ⟨rfl, rfl, rfl, rfl⟩ := h
      refine ⟨irr, ?_⟩
      unfold bf at *; simp at *; omega
    · next hb =>
      simp only [Prod.mk.injEq] at h
      obtain ⟨rfl, rfl, rfl, rfl⟩ := h
      exact ⟨by simpa using hb, irr⟩
  have hab : ∀ px py qx qy : Int, (px, py, qx, qy) = (if bf bx by_ ax ay = true then (bx, by_, ax, ay) else (ax, ay, bx, by_)) → bf dx dy px py = false ∧ bf qx qy dx dy = false := by
    intro px py qx qy h
    split at h
    · next hb =>
      simp only [Prod.mk.injEq] at h
      obtain ⟨rfl, rfl, rfl, rfl⟩ := h
      refine lexmid ?_ ?_ ?_
      · unfold inb at *; simp only [Bool.and_eq_true, decide_eq_true_eq] at *; omega
      · unfold tw at *; grind
      · unfold bf at *; simp at *; omega
    · next hb =>
      simp only [Prod.mk.injEq] at h
      obtain ⟨rfl, rfl, rfl, rfl⟩ := h
      exact lexmid hi ht (by simpa using hb)
  unfold shF
  obtain ⟨⟨px, py, qx, qy⟩, hp⟩ : ∃ z, z = (if bf bx by_ ax ay = true then (bx, by_, ax, ay) else (ax, ay, bx, by_)) := ⟨_, rfl⟩
  obtain ⟨⟨rx, ry, sx, sy⟩, hq⟩ : ∃ z, z = (if bf dx dy cx cy = true then (dx, dy, cx, cy) else (cx, cy, dx, dy)) := ⟨_, rfl⟩
  rw [← hp, ← hq]
  exact key px py qx qy rx ry sx sy (hab _ _ _ _ hp).1 (hab _ _ _ _ hp).2 (hcd _ _ _ _ hq).1 (hcd _ _ _ _ hq).2
/-- on the line of the ends, between them: the sides are not the same -/
theorem sides_apart {ax ay bx by_ cx cy dx dy : Int} (hi : inb ax ay bx by_ dx dy = true) (ht : tw ax ay bx by_ dx dy = 0) : tw cx cy dx dy ax ay * tw cx cy dx dy bx by_ ≤ 0 := by
  have hd := (on_dot ht).mpr hi
  have e1 : tw cx cy dx dy ax ay = (dx - cx) * (ay - dy) - (dy - cy) * (ax - dx) := by unfold tw; grind
  have e2 : tw cx cy dx dy bx by_ = (dx - cx) * (by_ - dy) - (dy - cy) * (bx - dx) := by unfold tw; grind
  have e3 : (ax - dx) * (by_ - dy) = (ay - dy) * (bx - dx) := by unfold tw at ht; grind
  have e4 : (ax - dx) * (bx - dx) + (ay - dy) * (by_ - dy) ≤ 0 := by
    have : dt ax ay dx dy bx by_ dx dy = (ax - dx) * (bx - dx) + (ay - dy) * (by_ - dy) := by unfold dt; grind
    omega
  rw [e1, e2]
  generalize dx - cx = u at *
  generalize dy - cy = v at *
  generalize ax - dx = a at *
  generalize ay - dy = b at *
  generalize bx - dx = c at *
  generalize by_ - dy = d at *
  clear e1 e2 hi ht hd
  have k : (u * b - v * a) * (u * d - v * c) * (a * a + b * b) = (u * b - v * a) * (u * b - v * a) * (a * c + b * d) := by grind
  have n1 := sq_nonneg a
  have n2 := sq_nonneg b
  have n3 := sq_nonneg (u * b - v * a)
  have k2 : (u * b - v * a) * (u * b - v * a) * (a * c + b * d) ≤ 0 := Int.mul_nonpos_of_nonneg_of_nonpos n3 e4
  by_cases h0 : a * a + b * b = 0
  · have z1 : a * a = 0 := by omega
    have z2 : b * b = 0 := by omega
    have z3 : a = 0 := by rcases Int.mul_eq_zero.1 z1 with h | h <;> exact h
    have z4 : b = 0 := by rcases Int.mul_eq_zero.1 z2 with h | h <;> exact h
    subst z3; subst z4; simp
  · apply Classical.byContradiction
    intro hx
    have := Int.mul_pos (show 0 < (u * b - v * a) * (u * d - v * c) by omega) (show 0 < a * a + b * b by omega)
    omega
theorem sgn_prod {s t : Int} (h : s * t ≤ 0) : sgn s * sgn t ≤ 0 := by
  have sp : ∀ x : Int, 0 < x → sgn x = 1 := fun x h => if_pos h
  have sn : ∀ x : Int, x < 0 → sgn x = -1 := by intro x h; unfold sgn; rw [if_neg (by omega), if_pos h]
  have s0 : sgn 0 = 0 := by decide
  rcases Int.lt_trichotomy s 0 with hs | rfl | hs
  · rcases Int.lt_trichotomy t 0 with ht | rfl | ht
    · have := Int.mul_pos_of_neg_of_neg hs ht; omega
    · rw [s0, Int.mul_zero]; decide
    · rw [sn s hs, sp t ht]; decide
  · rw [s0, Int.zero_mul]; decide
  · rcases Int.lt_trichotomy t 0 with ht | rfl | ht
    · rw [sp s hs, sn t ht]; decide
    · rw [s0, Int.mul_zero]; decide
    · have := Int.mul_pos hs ht; omega
theorem mt_touch {ax ay bx by_ cx cy dx dy : Int} (hn : nearL [(ax, ay), (bx, by_), (cx, cy), (dx, dy)] = true) (ho : onF ax ay bx by_ dx dy = true) : 0 < mtF ax ay bx by_ cx cy dx dy := by
  obtain ⟨na, nb, nc, nd⟩ := (near4_iff _ _ _ _ _ _ _ _).mp hn
  obtain ⟨-, ht, hi⟩ := onF_true ho
  unfold mtF
  rw [if_pos hn]
  split
  · next he =>
    obtain ⟨rfl, rfl⟩ := eqP_true he
    obtain ⟨rfl, rfl⟩ := on_pt ho
    rw [on_end ((near3_iff _ _ _ _ _ _).mpr ⟨nc, nd, nd⟩)]; decide
  · split
    · next he =>
      obtain ⟨rfl, rfl⟩ := eqP_true he
      rw [ho]; decide
    · split
      · exact sh_pos hi ht
      · have s1 : sd ax ay bx by_ dx dy = 0 := by
          unfold sd twF; rw [if_pos ((near3_iff _ _ _ _ _ _).mpr ⟨na, nb, nd⟩), ht]; decide
        have s2 : sd cx cy dx dy ax ay * sd cx cy dx dy bx by_ ≤ 0 := by
          unfold sd twF; rw [if_pos ((near3_iff _ _ _ _ _ _).mpr ⟨nc, nd, na⟩), if_pos ((near3_iff _ _ _ _ _ _).mpr ⟨nc, nd, nb⟩)]
          exact sgn_prod (sides_apart hi ht)
        rw [s1, Int.mul_zero, decide_eq_true (Int.le_refl 0), decide_eq_true s2]; decide
theorem mt_point {ax ay bx by_ dx dy : Int} (hn : nearL [(ax, ay), (bx, by_), (dx, dy)] = true) : mtF ax ay bx by_ dx dy dx dy = b2i (onF ax ay bx by_ dx dy) := by
  obtain ⟨na, nb, nd⟩ := (near3_iff _ _ _ _ _ _).mp hn
  have e : eqP dx dy dx dy = true := by unfold eqP; simp
  unfold mtF
  rw [if_pos ((near4_iff _ _ _ _ _ _ _ _).mpr ⟨na, nb, nd, nd⟩)]
  split
  · next he =>
    obtain ⟨rfl, rfl⟩ := eqP_true he
    congr 1
    cases h1 : onF dx dy dx dy ax ay
    · cases h2 : onF ax ay ax ay dx dy
      · rfl
      · obtain ⟨rfl, rfl⟩ := on_pt h2
        rw [h1] at h2; cases h2
    · obtain ⟨rfl, rfl⟩ := on_pt h1
      exact h1.symm
  · rfl
end Go.Proofs.Ytpdiojndfckmfaa.Geo
