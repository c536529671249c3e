/- Meet does not look at which segment is the first. Plain law. -/
import Derived.Test.YtpdiojndfckmfaaGeoPlainJ
namespace Go.Proofs.Ytpdiojndfckmfaa.Geo
open Go.Proofs.Ytpdiojndfckmfaa
set_option linter.unusedVariables false
theorem col {ax ay bx by_ cx cy dx dy : Int} (hab : ¬ eqP ax ay bx by_ = true) (t1 : tw ax ay bx by_ cx cy = 0) (t2 : tw ax ay bx by_ dx dy = 0) : tw cx cy dx dy ax ay = 0 ∧ tw cx cy dx dy bx by_ = 0 := by
  have t3 : tw cx cy dx dy ax ay = 0 := by
    have i1 : (bx - ax) * tw cx cy dx dy ax ay = (cx - ax) * (tw ax ay bx by_ dx dy - tw ax ay bx by_ cx cy) - (dx - cx) * tw ax ay bx by_ cx cy := by unfold tw; grind
    have i2 : (by_ - ay) * tw cx cy dx dy ax ay = (cy - ay) * (tw ax ay bx by_ dx dy - tw ax ay bx by_ cx cy) - (dy - cy) * tw ax ay bx by_ cx cy := by unfold tw; grind
    rw [t1, t2] at i1 i2
    simp only [Int.mul_zero, Int.sub_zero] at i1 i2
    rcases Int.mul_eq_zero.mp i1 with h | h
    · rcases Int.mul_eq_zero.mp i2 with g | g
      · exfalso; apply hab; unfold eqP; simp; omega
      · exact g
    · exact h
  refine ⟨t3, ?_⟩
  have : tw cx cy dx dy bx by_ = tw cx cy dx dy ax ay - (tw ax ay bx by_ dx dy - tw ax ay bx by_ cx cy) := by unfold tw; grind
  omega
theorem sd_zero {ax ay bx by_ cx cy : Int} (ha : Nr ax ay) (hb : Nr bx by_) (hc : Nr cx cy) : sd ax ay bx by_ cx cy = 0 ↔ tw ax ay bx by_ cx cy = 0 := by
  unfold sd twF
  rw [if_pos ((near3_iff _ _ _ _ _ _).mpr ⟨ha, hb, hc⟩)]
  unfold sgn; split <;> (try split) <;> simp <;> omega
theorem on_two (ax ay cx cy : Int) : onF ax ay ax ay cx cy = onF cx cy cx cy ax ay := by
  cases h1 : onF cx cy cx cy ax ay
  · cases h2 : onF ax ay ax ay cx cy
    · rfl
    · obtain ⟨rfl, rfl⟩ := on_pt h2
      rw [h1] at h2; cases h2
  · obtain ⟨rfl, rfl⟩ := on_pt h1
    exact h1
theorem mt_comm (ax ay bx by_ cx cy dx dy : Int) : mtF cx cy dx dy ax ay bx by_ = mtF ax ay bx by_ cx cy dx dy := by
  have hp : nearL [(cx, cy), (dx, dy), (ax, ay), (bx, by_)] = nearL [(ax, ay), (bx, by_), (cx, cy), (dx, dy)] := by
    rw [Bool.eq_iff_iff, near4_iff, near4_iff]
    exact ⟨fun h => ⟨h.2.2.1, h.2.2.2, h.1, h.2.1⟩, fun h => ⟨h.2.2.1, h.2.2.2, h.1, h.2.1⟩⟩
  unfold mtF
  rw [hp]
  by_cases hn : nearL [(ax, ay), (bx, by_), (cx, cy), (dx, dy)] = true
  · rw [if_pos hn, if_pos hn]
    obtain ⟨na, nb, nc, nd⟩ := (near4_iff _ _ _ _ _ _ _ _).mp hn
    by_cases hab : eqP ax ay bx by_ = true
    · by_cases hcd : eqP cx cy dx dy = true
      · rw [if_pos hcd, if_pos hab]
        obtain ⟨rfl, rfl⟩ := eqP_true hab
        obtain ⟨rfl, rfl⟩ := eqP_true hcd
        rw [on_two]
      · rw [if_neg hcd, if_pos hab, if_pos hab]
    · by_cases hcd : eqP cx cy dx dy = true
      · rw [if_pos hcd, if_neg hab, if_pos hcd]
      · rw [if_neg hcd, if_neg hab, if_neg hab, if_neg hcd, sh_comm ax ay bx by_ cx cy dx dy, Bool.and_comm]
        by_cases h : sd ax ay bx by_ cx cy = 0 ∧ sd ax ay bx by_ dx dy = 0
        · have k := col hab ((sd_zero na nb nc).mp h.1) ((sd_zero na nb nd).mp h.2)
          rw [if_pos h, if_pos ⟨(sd_zero nc nd na).mpr k.1, (sd_zero nc nd nb).mpr k.2⟩]
        · rw [if_neg h, if_neg (fun g => h (by
            have k := col hcd ((sd_zero nc nd na).mp g.1) ((sd_zero nc nd nb).mp g.2)
            exact ⟨(sd_zero na nb nc).mpr k.1, (sd_zero na nb nd).mpr k.2⟩))]
  · rw [if_neg hn, if_neg hn]
end Go.Proofs.Ytpdiojndfckmfaa.Geo
