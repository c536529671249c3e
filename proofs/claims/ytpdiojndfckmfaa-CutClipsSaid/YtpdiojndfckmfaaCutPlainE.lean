/- Plain words for layer cut: what CutWithin asks of Clip. No program in sight. -/
import Derived.Test.YtpdiojndfckmfaaCutPlainD
set_option linter.unusedVariables false
namespace Go.Proofs.Ytpdiojndfckmfaa.Cut
open Num Geo
def clX (ax ay bx by_ x0 y0 x1 y1 : Int) : Int := clV (clO ax ay bx by_ x0 y0 x1 y1) (clS ax ay bx by_ x0 y0 x1 y1).x1
def clY (ax ay bx by_ x0 y0 x1 y1 : Int) : Int := clV (clO ax ay bx by_ x0 y0 x1 y1) (clS ax ay bx by_ x0 y0 x1 y1).y1
def clZ (ax ay bx by_ x0 y0 x1 y1 : Int) : Int := clV (clO ax ay bx by_ x0 y0 x1 y1) (clS ax ay bx by_ x0 y0 x1 y1).x2
def clW (ax ay bx by_ x0 y0 x1 y1 : Int) : Int := clV (clO ax ay bx by_ x0 y0 x1 y1) (clS ax ay bx by_ x0 y0 x1 y1).y2
theorem cl_part {ax ay bx by_ : Int} (x0 y0 x1 y1 : Int) (hn : nearL [(ax, ay), (bx, by_)] = true) : Part ax ay bx by_ x0 y0 x1 y1 (clO ax ay bx by_ x0 y0 x1 y1) (clX ax ay bx by_ x0 y0 x1 y1) (clY ax ay bx by_ x0 y0 x1 y1) (clZ ax ay bx by_ x0 y0 x1 y1) (clW ax ay bx by_ x0 y0 x1 y1) := clip_part ax ay bx by_ x0 y0 x1 y1 hn
theorem cl_far {ax ay bx by_ : Int} (x0 y0 x1 y1 : Int) (hn : nearL [(ax, ay), (bx, by_)] = false) : clO ax ay bx by_ x0 y0 x1 y1 = false ∧ clX ax ay bx by_ x0 y0 x1 y1 = 0 ∧ clY ax ay bx by_ x0 y0 x1 y1 = 0 ∧ clZ ax ay bx by_ x0 y0 x1 y1 = 0 ∧ clW ax ay bx by_ x0 y0 x1 y1 = 0 := by
  have h : clO ax ay bx by_ x0 y0 x1 y1 = false := by unfold clO; rw [hn]; rfl
  unfold clX clY clZ clW
  rw [h]
  exact ⟨rfl, rfl, rfl, rfl, rfl⟩
theorem near_back (ax ay bx by_ : Int) : nearL [(bx, by_), (ax, ay)] = nearL [(ax, ay), (bx, by_)] := by simp [nearL, Bool.and_comm]
theorem cl_back (ax ay bx by_ x0 y0 x1 y1 : Int) : clO bx by_ ax ay x0 y0 x1 y1 = clO ax ay bx by_ x0 y0 x1 y1 ∧ clX bx by_ ax ay x0 y0 x1 y1 = clZ ax ay bx by_ x0 y0 x1 y1 ∧ clY bx by_ ax ay x0 y0 x1 y1 = clW ax ay bx by_ x0 y0 x1 y1 ∧
    clZ bx by_ ax ay x0 y0 x1 y1 = clX ax ay bx by_ x0 y0 x1 y1 ∧ clW bx by_ ax ay x0 y0 x1 y1 = clY ax ay bx by_ x0 y0 x1 y1 := by
  cases hn : nearL [(ax, ay), (bx, by_)]
  · obtain ⟨a1, a2, a3, a4, a5⟩ := cl_far x0 y0 x1 y1 hn
    obtain ⟨b1, b2, b3, b4, b5⟩ := cl_far x0 y0 x1 y1 ((near_back ax ay bx by_).trans hn)
    rw [a1, a2, a3, a4, a5, b1, b2, b3, b4, b5]
    exact ⟨rfl, rfl, rfl, rfl, rfl⟩
  · exact part_uniq (cl_part x0 y0 x1 y1 ((near_back ax ay bx by_).trans hn)) (part_back (cl_part x0 y0 x1 y1 hn))
theorem near_of {ax ay bx by_ x0 y0 x1 y1 : Int} (h : clO ax ay bx by_ x0 y0 x1 y1 = true) : nearL [(ax, ay), (bx, by_)] = true := by
  cases hn : nearL [(ax, ay), (bx, by_)]
  · rw [(cl_far x0 y0 x1 y1 hn).1] at h; cases h
  · rfl
theorem inB_iff (x0 y0 x1 y1 px py : Int) : inB x0 y0 x1 y1 px py = true ↔ (x0 ≤ px ∧ px ≤ x1 ∧ y0 ≤ py ∧ py ≤ y1) := by
  unfold inB; simp
  try constructor <;> intro h <;> omega
theorem cl_in {ax ay bx by_ x0 y0 x1 y1 : Int} (h : clO ax ay bx by_ x0 y0 x1 y1 = true) :
    inB x0 y0 x1 y1 (clX ax ay bx by_ x0 y0 x1 y1) (clY ax ay bx by_ x0 y0 x1 y1) = true ∧ inB x0 y0 x1 y1 (clZ ax ay bx by_ x0 y0 x1 y1) (clW ax ay bx by_ x0 y0 x1 y1) = true := by
  have hp := cl_part x0 y0 x1 y1 (near_of h)
  rw [h] at hp
  obtain ⟨a, b⟩ := part_in hp
  exact ⟨(inB_iff ..).2 ⟨a.1, a.2.1, a.2.2.1, a.2.2.2⟩, (inB_iff ..).2 ⟨b.1, b.2.1, b.2.2.1, b.2.2.2⟩⟩
theorem cl_whole {ax ay bx by_ x0 y0 x1 y1 : Int} (hn : nearL [(ax, ay), (bx, by_)] = true) (h1 : inB x0 y0 x1 y1 ax ay = true) (h2 : inB x0 y0 x1 y1 bx by_ = true) :
    clO ax ay bx by_ x0 y0 x1 y1 = true ∧ clX ax ay bx by_ x0 y0 x1 y1 = ax ∧ clY ax ay bx by_ x0 y0 x1 y1 = ay ∧ clZ ax ay bx by_ x0 y0 x1 y1 = bx ∧ clW ax ay bx by_ x0 y0 x1 y1 = by_ :=
  part_whole (cl_part x0 y0 x1 y1 hn) ((inB_iff ..).1 h1) ((inB_iff ..).1 h2)
end Go.Proofs.Ytpdiojndfckmfaa.Cut
