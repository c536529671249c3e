/- Plain words for layer cut: what CutEdges asks of Clip. No program in sight. -/
import Derived.Test.YtpdiojndfckmfaaCutPlainE
set_option linter.unusedVariables false
namespace Go.Proofs.Ytpdiojndfckmfaa.Cut
open Num Geo
theorem sgn_pos' {t : Int} (h : 0 < t) : sgn t = 1 := by unfold sgn; repeat' split; all_goals omega
theorem sgn_neg' {t : Int} (h : t < 0) : sgn t = -1 := by unfold sgn; repeat' split; all_goals omega
theorem sgn_zero' {t : Int} (h : sgn t = 0) : t = 0 := by
  unfold sgn at h; repeat' split at h
  all_goals omega
/-- a segment that meets an upright one: where -/
theorem edge_meets {ax ay bx by_ m y0 y1 : Int} (h1 : ax < m) (h2 : m < bx) (h3 : y0 ≤ y1) (h : mtF ax ay bx by_ m y0 m y1 ≠ 0) :
    nearL [(ax, ay), (bx, by_)] = true ∧ y0 * (bx - ax) ≤ ay * (bx - ax) + (by_ - ay) * (m - ax) ∧ ay * (bx - ax) + (by_ - ay) * (m - ax) ≤ y1 * (bx - ax) := by
  cases hn : nearL [(ax, ay), (bx, by_), (m, y0), (m, y1)]
  · exact absurd (by unfold mtF; rw [hn]; rfl) h
  · obtain ⟨na, nb, nc, nd⟩ := (near4_iff ..).1 hn
    have n2 := (near2_iff ax ay bx by_).2 ⟨na, nb⟩
    refine ⟨n2, ?_⟩
    have t0 : twF ax ay bx by_ m y0 = tw ax ay bx by_ m y0 := by unfold twF; rw [if_pos ((near3_iff ..).2 ⟨na, nb, nc⟩)]
    have t1 : twF ax ay bx by_ m y1 = tw ax ay bx by_ m y1 := by unfold twF; rw [if_pos ((near3_iff ..).2 ⟨na, nb, nd⟩)]
    have e0 : tw ax ay bx by_ m y0 = y0 * (bx - ax) - (ay * (bx - ax) + (by_ - ay) * (m - ax)) := by unfold tw; grind
    have e1 : tw ax ay bx by_ m y1 = y1 * (bx - ax) - (ay * (bx - ax) + (by_ - ay) * (m - ax)) := by unfold tw; grind
    have hle : y0 * (bx - ax) ≤ y1 * (bx - ax) := Int.mul_le_mul_of_nonneg_right h3 (by omega)
    have hs : sd ax ay bx by_ m y0 = sgn (tw ax ay bx by_ m y0) := by unfold sd; rw [t0]
    have hs' : sd ax ay bx by_ m y1 = sgn (tw ax ay bx by_ m y1) := by unfold sd; rw [t1]
    generalize y0 * (bx - ax) = u0 at *
    generalize y1 * (bx - ax) = u1 at *
    generalize ay * (bx - ax) + (by_ - ay) * (m - ax) = z at *
    unfold mtF at h
    rw [if_pos hn] at h
    have hab : ¬ eqP ax ay bx by_ = true := by unfold eqP; simp; omega
    rw [if_neg hab] at h
    split at h
    · have ho : onF ax ay bx by_ m y0 = true := by
        cases ho : onF ax ay bx by_ m y0
        · rw [ho] at h; exact absurd rfl h
        · rfl
      unfold onF at ho
      simp only [Bool.and_eq_true, decide_eq_true_eq] at ho
      rename_i hcd
      have hy : y0 = y1 := by unfold eqP at hcd; simp at hcd; exact hcd
      have := ho.1.2
      subst hy
      omega
    · split at h
      · rename_i hz
        rw [hs, hs'] at hz
        have := sgn_zero' hz.1
        have := sgn_zero' hz.2
        omega
      · have hp : (decide (sd ax ay bx by_ m y0 * sd ax ay bx by_ m y1 ≤ 0)) = true := by
          cases hd : decide (sd ax ay bx by_ m y0 * sd ax ay bx by_ m y1 ≤ 0)
          · rw [hd] at h; exact absurd rfl h
          · rfl
        rw [hs, hs'] at hp
        simp only [decide_eq_true_eq] at hp
        constructor
        · apply Int.not_lt.1
          intro g
          rw [sgn_pos' (t := tw ax ay bx by_ m y0) (by omega), sgn_pos' (t := tw ax ay bx by_ m y1) (by omega)] at hp
          exact absurd hp (by decide)
        · apply Int.not_lt.1
          intro g
          rw [sgn_neg' (t := tw ax ay bx by_ m y0) (by omega), sgn_neg' (t := tw ax ay bx by_ m y1) (by omega)] at hp
          exact absurd hp (by decide)
theorem bxd_turn (ax ay bx by_ x0 y0 x1 y1 n d : Int) : Bxd ay ax by_ bx y0 x0 y1 x1 n d ↔ Bxd ax ay bx by_ x0 y0 x1 y1 n d := by
  unfold Bxd; exact And.comm
theorem part_turn {ax ay bx by_ x0 y0 x1 y1 : Int} {o : Bool} {cx cy dx dy : Int} (h : Part ax ay bx by_ x0 y0 x1 y1 o cx cy dx dy) : Part ay ax by_ bx y0 x0 y1 x1 o cy cx dy dx := by
  rcases h with ⟨a1, a2, a3, a4, a5, a6⟩ | ⟨a1, n1, d1, n2, d2, a2, a3, a4, a5, a6, a7, a8, a9, a10, a11, a12, a13⟩
  · exact .inl ⟨a1, a3, a2, a5, a4, fun n d hd h0 h hb => a6 n d hd h0 h ((bxd_turn ..).1 hb)⟩
  · exact .inr ⟨a1, n1, d1, n2, d2, a2, a3, a4, a5, a6, a7, a8, fun n d hd h0 h => by rw [bxd_turn, a9 n d hd h0 h], a11, a10, a13, a12⟩
theorem cl_turn {ax ay bx by_ : Int} (x0 y0 x1 y1 : Int) (hn : nearL [(ax, ay), (bx, by_)] = true) : clO ay ax by_ bx y0 x0 y1 x1 = clO ax ay bx by_ x0 y0 x1 y1 ∧ clX ay ax by_ bx y0 x0 y1 x1 = clY ax ay bx by_ x0 y0 x1 y1 ∧ clY ay ax by_ bx y0 x0 y1 x1 = clX ax ay bx by_ x0 y0 x1 y1 ∧
    clZ ay ax by_ bx y0 x0 y1 x1 = clW ax ay bx by_ x0 y0 x1 y1 ∧ clW ay ax by_ bx y0 x0 y1 x1 = clZ ax ay bx by_ x0 y0 x1 y1 :=
  part_uniq (cl_part y0 x0 y1 x1 (by rw [near_turn]; exact hn)) (part_turn (cl_part x0 y0 x1 y1 hn))
theorem edge_at {ax ay bx by_ m : Int} (hn : nearL [(ax, ay), (bx, by_)] = true) (h1 : ax < m) (h2 : m < bx) : atE ax ay bx by_ m = 0 ∧ atV ax ay bx by_ m = ay + rnd ((by_ - ay) * (m - ax)) (bx - ax) := by
  have h : atE ax ay bx by_ m = 0 := by unfold atE; rw [if_pos hn, if_neg (by omega), if_neg (by omega)]
  unfold atV
  rw [if_pos h]
  exact ⟨h, rfl⟩
/-- the part in the box to the west ends at the edge -/
theorem edge_west {ax ay bx by_ x0 y0 y1 m : Int} (hn : nearL [(ax, ay), (bx, by_)] = true) (h1 : ax < m) (h2 : m < bx) (h3 : x0 ≤ m) (hy : y0 * (bx - ax) ≤ ay * (bx - ax) + (by_ - ay) * (m - ax) ∧ ay * (bx - ax) + (by_ - ay) * (m - ax) ≤ y1 * (bx - ax)) :
    clO ax ay bx by_ x0 y0 m y1 = true ∧ clZ ax ay bx by_ x0 y0 m y1 = m ∧ clW ax ay bx by_ x0 y0 m y1 = atV ax ay bx by_ m := by
  have hB : Bxd ax ay bx by_ x0 y0 m y1 (m - ax) (bx - ax) := by
    refine ⟨⟨?_, ?_⟩, hy⟩
    · have := Int.mul_le_mul_of_nonneg_right h3 (show 0 ≤ bx - ax by omega)
      have e : ax * (bx - ax) + (bx - ax) * (m - ax) = m * (bx - ax) := by grind
      omega
    · have e : ax * (bx - ax) + (bx - ax) * (m - ax) = m * (bx - ax) := by grind
      omega
  have hp := cl_part x0 y0 m y1 hn
  rcases hp with ⟨a1, a2, a3, a4, a5, a6⟩ | ⟨a1, n1, d1, n2, d2, a2, a3, a4, a5, a6, a7, a8, a9, a10, a11, a12, a13⟩
  · exact absurd hB (a6 _ _ (by omega) (by omega) (by omega))
  · have k1 := ((a9 (m - ax) (bx - ax) (by omega) (by omega) (by omega)).1 hB).2
    have k2 := ((a9 n2 d2 a5 a6 a7).2 ⟨a8, Int.le_refl _⟩).1.2
    have e1 : (m - ax) * d2 = m * d2 - ax * d2 := Int.sub_mul _ _ _
    have e2 : n2 * (bx - ax) = (bx - ax) * n2 := Int.mul_comm _ _
    have eq : n2 * (bx - ax) = (m - ax) * d2 := by omega
    refine ⟨a1, ?_, ?_⟩
    · rw [a12, rnd_exact (k := m - ax) a5 (by omega)]; omega
    · rw [a13, (edge_at hn h1 h2).2, rnd_val (d' := bx - ax) (n' := m - ax) a5 (by omega) eq]
/-- the part in the box to the east begins at the edge -/
theorem edge_east {ax ay bx by_ x1 y0 y1 m : Int} (hn : nearL [(ax, ay), (bx, by_)] = true) (h1 : ax < m) (h2 : m < bx) (h3 : m ≤ x1) (hy : y0 * (bx - ax) ≤ ay * (bx - ax) + (by_ - ay) * (m - ax) ∧ ay * (bx - ax) + (by_ - ay) * (m - ax) ≤ y1 * (bx - ax)) :
    clO ax ay bx by_ m y0 x1 y1 = true ∧ clX ax ay bx by_ m y0 x1 y1 = m ∧ clY ax ay bx by_ m y0 x1 y1 = atV ax ay bx by_ m := by
  have hB : Bxd ax ay bx by_ m y0 x1 y1 (m - ax) (bx - ax) := by
    refine ⟨⟨?_, ?_⟩, hy⟩
    · have e : ax * (bx - ax) + (bx - ax) * (m - ax) = m * (bx - ax) := by grind
      omega
    · have := Int.mul_le_mul_of_nonneg_right h3 (show 0 ≤ bx - ax by omega)
      have e : ax * (bx - ax) + (bx - ax) * (m - ax) = m * (bx - ax) := by grind
      omega
  have hp := cl_part m y0 x1 y1 hn
  rcases hp with ⟨a1, a2, a3, a4, a5, a6⟩ | ⟨a1, n1, d1, n2, d2, a2, a3, a4, a5, a6, a7, a8, a9, a10, a11, a12, a13⟩
  · exact absurd hB (a6 _ _ (by omega) (by omega) (by omega))
  · have k1 := ((a9 (m - ax) (bx - ax) (by omega) (by omega) (by omega)).1 hB).1
    have k2 := ((a9 n1 d1 a2 a3 a4).2 ⟨Int.le_refl _, a8⟩).1.1
    have e1 : (m - ax) * d1 = m * d1 - ax * d1 := Int.sub_mul _ _ _
    have e2 : n1 * (bx - ax) = (bx - ax) * n1 := Int.mul_comm _ _
    have eq : n1 * (bx - ax) = (m - ax) * d1 := by omega
    refine ⟨a1, ?_, ?_⟩
    · rw [a10, rnd_exact (k := m - ax) a2 (by omega)]; omega
    · rw [a11, (edge_at hn h1 h2).2, rnd_val (d' := bx - ax) (n' := m - ax) a2 (by omega) eq]
end Go.Proofs.Ytpdiojndfckmfaa.Cut
