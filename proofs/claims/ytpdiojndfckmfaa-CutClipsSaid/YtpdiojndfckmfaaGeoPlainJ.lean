/- Meet does not look at a segment's direction: its first one. Plain laws. -/
import Derived.Test.YtpdiojndfckmfaaGeoPlainI
namespace Go.Proofs.Ytpdiojndfckmfaa.Geo
open Go.Proofs.Ytpdiojndfckmfaa
set_option linter.unusedVariables false
theorem eqP_comm (ax ay bx by_ : Int) : eqP bx by_ ax ay = eqP ax ay bx by_ := by
  unfold eqP; rw [Bool.eq_iff_iff]; simp only [Bool.and_eq_true, decide_eq_true_eq]; omega
theorem tw_back (ax ay bx by_ cx cy : Int) : tw bx by_ ax ay cx cy = -tw ax ay bx by_ cx cy := by unfold tw; grind
theorem sh_flip (ax ay bx by_ cx cy dx dy : Int) : shF bx by_ ax ay cx cy dx dy = shF ax ay bx by_ cx cy dx dy := by
  have e : (if bf ax ay bx by_ = true then (ax, ay, bx, by_) else (bx, by_, ax, ay)) = (if bf bx by_ ax ay = true then (bx, by_, ax, ay) else (ax, ay, bx, by_)) := by
    unfold bf
    simp only [decide_eq_true_eq, Bool.or_eq_true, Bool.and_eq_true]
    split <;> split <;> first | rfl | (simp only [Prod.mk.injEq]; omega)
  unfold shF
  rw [e]
theorem near_back (ax ay bx by_ cx cy : Int) : nearL [(bx, by_), (ax, ay), (cx, cy)] = nearL [(ax, ay), (bx, by_), (cx, cy)] := by
  rw [Bool.eq_iff_iff, near3_iff, near3_iff]
  exact ⟨fun h => ⟨h.2.1, h.1, h.2.2⟩, fun h => ⟨h.2.1, h.1, h.2.2⟩⟩
theorem near_back4 (ax ay bx by_ cx cy dx dy : Int) : nearL [(bx, by_), (ax, ay), (cx, cy), (dx, dy)] = nearL [(ax, ay), (bx, by_), (cx, cy), (dx, dy)] := by
  rw [Bool.eq_iff_iff, near4_iff, near4_iff]
  exact ⟨fun h => ⟨h.2.1, h.1, h.2.2⟩, fun h => ⟨h.2.1, h.1, h.2.2⟩⟩
theorem sd_back (ax ay bx by_ cx cy : Int) : sd bx by_ ax ay cx cy = -sd ax ay bx by_ cx cy := by
  unfold sd twF
  rw [near_back, tw_back]
  split
  · exact sgn_neg _
  · decide
theorem on_back (ax ay bx by_ cx cy : Int) : onF bx by_ ax ay cx cy = onF ax ay bx by_ cx cy := by
  unfold onF
  rw [near_back, tw_back, show inb bx by_ ax ay cx cy = inb ax ay bx by_ cx cy by unfold inb; rw [Int.min_comm, Int.max_comm, Int.min_comm by_, Int.max_comm by_]]
  rw [show decide (-tw ax ay bx by_ cx cy = 0) = decide (tw ax ay bx by_ cx cy = 0) by rw [Bool.eq_iff_iff]; simp only [decide_eq_true_eq]; omega]
theorem mt_flip (ax ay bx by_ cx cy dx dy : Int) : mtF bx by_ ax ay cx cy dx dy = mtF ax ay bx by_ cx cy dx dy := by
  unfold mtF
  rw [near_back4, eqP_comm ax ay bx by_, on_back ax ay bx by_ cx cy, sd_back ax ay bx by_ cx cy, sd_back ax ay bx by_ dx dy, sh_flip, Int.neg_mul_neg, Int.mul_comm (sd cx cy dx dy bx by_)]
  by_cases he : eqP ax ay bx by_ = true
  · obtain ⟨rfl, rfl⟩ := eqP_true he
    simp only [Int.neg_eq_zero]
  · simp only [Int.neg_eq_zero, if_neg he]
theorem sh_comm (ax ay bx by_ cx cy dx dy : Int) : shF cx cy dx dy ax ay bx by_ = shF ax ay bx by_ cx cy dx dy := by
  unfold shF
  obtain ⟨⟨p0, p1, q0, q1⟩, hp⟩ : ∃ z, z = (if bf bx by_ ax ay = true then (bx, by_, ax, ay) else (ax, ay, bx, by_)) := ⟨_, rfl⟩
  obtain ⟨⟨r0, r1, s0, s1⟩, hq⟩ : ∃ z, z = (if bf dx dy cx cy = true then (dx, dy, cx, cy) else (cx, cy, dx, dy)) := ⟨_, rfl⟩
  rw [← hp, ← hq]
  dsimp only
  rw [mx p0 p1 r0 r1, mn s0 s1 q0 q1]
end Go.Proofs.Ytpdiojndfckmfaa.Geo
