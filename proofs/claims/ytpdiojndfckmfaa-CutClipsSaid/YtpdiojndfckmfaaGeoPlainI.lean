/- The reference's Meet is the program's: the law. -/
import Derived.Test.YtpdiojndfckmfaaGeoPlainH
namespace Go.Proofs.Ytpdiojndfckmfaa.Geo
open Go.Proofs.Ytpdiojndfckmfaa
set_option linter.unusedVariables false
theorem eqP_self (ax ay : Int) : eqP ax ay ax ay = true := by unfold eqP; simp
theorem on_near {ax ay bx by_ cx cy : Int} (hn : nearL [(ax, ay), (bx, by_), (cx, cy)] = true) : onF ax ay bx by_ cx cy = (decide (tw ax ay bx by_ cx cy = 0) && inb ax ay bx by_ cx cy) := by
  unfold onF; rw [hn]; rfl
theorem rm_eq (ax ay bx by_ cx cy dx dy : Int) : rmF ax ay bx by_ cx cy dx dy = mtF ax ay bx by_ cx cy dx dy := by
  unfold rmF mtF
  by_cases hn : nearL [(ax, ay), (bx, by_), (cx, cy), (dx, dy)] = true
  · rw [if_pos hn, if_pos hn]
    obtain ⟨na, nb, nc, nd⟩ := (near4_iff _ _ _ _ _ _ _ _).mp hn
    by_cases hab : eqP ax ay bx by_ = true
    · rw [if_pos hab]
      obtain ⟨rfl, rfl⟩ := eqP_true hab
      have hc0 : cr ax ay ax ay cx cy dx dy = 0 := by unfold cr; grind
      have t1 : tw ax ay ax ay cx cy = 0 := by unfold tw; grind
      have t2 : tw ax ay ax ay dx dy = 0 := by unfold tw; grind
      rw [on_near ((near3_iff _ _ _ _ _ _).mpr ⟨nc, nd, na⟩)]
      by_cases hcd : eqP cx cy dx dy = true
      · obtain ⟨rfl, rfl⟩ := eqP_true hcd
        cases hac : eqP ax ay cx cy
        · rw [if_pos ⟨hab, hcd, rfl⟩]
          have : inb cx cy cx cy ax ay = false := by
            unfold eqP at hac; unfold inb; simp at *; omega
          rw [this, Bool.and_false]; rfl
        · obtain ⟨rfl, rfl⟩ := eqP_true hac
          rw [if_neg (by simp), if_pos hc0, if_neg (by simp [t1])]
          rw [sh_swap _ _ _ _ _ _ t1, decide_eq_true t1, Bool.true_and]
      · rw [if_neg (fun h => hcd h.2.1), if_pos hc0]
        by_cases ht : tw cx cy dx dy ax ay = 0
        · rw [if_neg (by simp [t1, t2, ht]), sh_swap _ _ _ _ _ _ ht, decide_eq_true ht, Bool.true_and]
        · rw [if_pos (Or.inr (Or.inr (Or.inl ht))), decide_eq_false ht, Bool.false_and]; rfl
    · rw [if_neg hab, if_neg (fun h => hab h.1)]
      by_cases hcd : eqP cx cy dx dy = true
      · rw [if_pos hcd]
        obtain ⟨rfl, rfl⟩ := eqP_true hcd
        have hc0 : cr ax ay bx by_ cx cy cx cy = 0 := by unfold cr; grind
        have t1 : tw cx cy cx cy ax ay = 0 := by unfold tw; grind
        have t2 : tw cx cy cx cy bx by_ = 0 := by unfold tw; grind
        rw [if_pos hc0, on_near ((near3_iff _ _ _ _ _ _).mpr ⟨na, nb, nc⟩)]
        by_cases ht : tw ax ay bx by_ cx cy = 0
        · rw [if_neg (by simp [t1, t2, ht]), sh_seg ht, decide_eq_true ht, Bool.true_and]
        · rw [if_pos (Or.inl ht), decide_eq_false ht, Bool.false_and]; rfl
      · rw [if_neg hcd]
        have s1 : sd ax ay bx by_ cx cy = sgn (tw ax ay bx by_ cx cy) := by unfold sd twF; rw [if_pos ((near3_iff _ _ _ _ _ _).mpr ⟨na, nb, nc⟩)]
        have s2 : sd ax ay bx by_ dx dy = sgn (tw ax ay bx by_ dx dy) := by unfold sd twF; rw [if_pos ((near3_iff _ _ _ _ _ _).mpr ⟨na, nb, nd⟩)]
        have s3 : sd cx cy dx dy ax ay = sgn (tw cx cy dx dy ax ay) := by unfold sd twF; rw [if_pos ((near3_iff _ _ _ _ _ _).mpr ⟨nc, nd, na⟩)]
        have s4 : sd cx cy dx dy bx by_ = sgn (tw cx cy dx dy bx by_) := by unfold sd twF; rw [if_pos ((near3_iff _ _ _ _ _ _).mpr ⟨nc, nd, nb⟩)]
        rw [s1, s2, s3, s4]
        have e1 : tw ax ay bx by_ cx cy = -cr ax ay cx cy ax ay bx by_ := by unfold tw cr; grind
        have e2 : tw ax ay bx by_ dx dy = -(cr ax ay cx cy ax ay bx by_ - cr ax ay bx by_ cx cy dx dy) := by unfold tw cr; grind
        have e3 : tw cx cy dx dy ax ay = cr ax ay cx cy cx cy dx dy := by unfold tw cr; grind
        have e4 : tw cx cy dx dy bx by_ = cr ax ay cx cy cx cy dx dy - cr ax ay bx by_ cx cy dx dy := by unfold tw cr; grind
        have z0 : ∀ t : Int, sgn t = 0 ↔ t = 0 := by
          intro t; unfold sgn; split <;> (try split) <;> simp <;> omega
        by_cases h0 : cr ax ay bx by_ cx cy dx dy = 0
        · rw [if_pos h0]
          by_cases hv : cr ax ay cx cy ax ay bx by_ = 0
          · have t1 : tw ax ay bx by_ cx cy = 0 := by omega
            have t2 : tw ax ay bx by_ dx dy = 0 := by omega
            have t3 : tw cx cy dx dy ax ay = 0 := by
              have i1 : (bx - ax) * tw cx cy dx dy ax ay = (dx - cx) * tw ax ay bx by_ cx cy * (-1) + (cx - ax) * cr ax ay bx by_ cx cy dx dy := by unfold tw cr; grind
              have i2 : (by_ - ay) * tw cx cy dx dy ax ay = (dy - cy) * tw ax ay bx by_ cx cy * (-1) + (cy - ay) * cr ax ay bx by_ cx cy dx dy := by unfold tw cr; grind
              rw [t1, h0] at i1 i2
              simp only [Int.mul_zero, Int.zero_mul, Int.add_zero] at i1 i2
              rcases Int.mul_eq_zero.mp i1 with h | h
              · rcases Int.mul_eq_zero.mp i2 with g | g
                · exfalso; apply hab; unfold eqP; simp; omega
                · exact g
              · exact h
            have t4 : tw cx cy dx dy bx by_ = 0 := by omega
            rw [if_neg (by simp [t1, t2, t3, t4]), if_pos ⟨(z0 _).mpr t1, (z0 _).mpr t2⟩]
          · have t1 : tw ax ay bx by_ cx cy ≠ 0 := by omega
            have t2 : tw ax ay bx by_ dx dy = tw ax ay bx by_ cx cy := by omega
            rw [if_pos (Or.inl t1), if_neg (fun h => t1 ((z0 _).mp h.1)), t2]
            have : ¬ sgn (tw ax ay bx by_ cx cy) * sgn (tw ax ay bx by_ cx cy) ≤ 0 := by
              have h1 := sq_nonneg (sgn (tw ax ay bx by_ cx cy))
              intro h2
              have h3 : sgn (tw ax ay bx by_ cx cy) * sgn (tw ax ay bx by_ cx cy) = 0 := by omega
              rcases Int.mul_eq_zero.mp h3 with g | g <;> exact t1 ((z0 _).mp g)
            rw [decide_eq_false this, Bool.false_and]; rfl
        · rw [if_neg h0, if_neg (fun h => h0 (by have := (z0 _).mp h.1; have := (z0 _).mp h.2; omega))]
          rw [e1, e2, e3, e4, sgn_neg, sgn_neg, Int.neg_mul_neg, sgn_bt h0, sgn_bt h0, Bool.and_comm]
  · rw [if_neg hn, if_neg hn]
end Go.Proofs.Ytpdiojndfckmfaa.Geo
