/- Points in boxes; the contracts of near and Near at three and four points. -/
import Derived.Test.YtpdiojndfckmfaaGeoA
namespace Go.Proofs.Ytpdiojndfckmfaa
open Go.RowKit
open Num Geo
set_option linter.unusedVariables false
/-- 3 points in boxes, then in an array -/
def B3 (w : World) (ax ay bx by_ cx cy : Int) : World := (((w.alloc (.cells #[.int .i64 ax, .int .i64 ay] 23)).alloc (.cells #[.int .i64 bx, .int .i64 by_] 23)).alloc (.cells #[.int .i64 cx, .int .i64 cy] 23))
def S3 (w : World) (ax ay bx by_ cx cy : Int) : World := (B3 w ax ay bx by_ cx cy).alloc (.cells #[.int .i64 ax, .int .i64 ay, .int .i64 bx, .int .i64 by_, .int .i64 cx, .int .i64 cy] 23)
/-- the boxes hold the points, and all that was there is as it was -/
def Has3 (w v : World) (ax ay bx by_ cx cy : Int) : Prop := v.cell? ⟨w.heap.size, 0, none⟩ = some (.int .i64 ax) ∧ v.cell? ⟨w.heap.size, 1, none⟩ = some (.int .i64 ay) ∧ v.cell? ⟨w.heap.size + 1, 0, none⟩ = some (.int .i64 bx) ∧ v.cell? ⟨w.heap.size + 1, 1, none⟩ = some (.int .i64 by_) ∧ v.cell? ⟨w.heap.size + 1 + 1, 0, none⟩ = some (.int .i64 cx) ∧ v.cell? ⟨w.heap.size + 1 + 1, 1, none⟩ = some (.int .i64 cy) ∧ Below w.heap.size w v
theorem Has3.later {w v u : World} {ax ay bx by_ cx cy : Int} (h : Has3 w v ax ay bx by_ cx cy) (hb : Below v.heap.size v u) : Has3 w u ax ay bx by_ cx cy := by
  obtain ⟨h0, h1, h2, h3, h4, h5, g⟩ := h
  exact ⟨cell_on h0 hb, cell_on h1 hb, cell_on h2 hb, cell_on h3 hb, cell_on h4 hb, cell_on h5 hb, below_on g hb⟩
theorem B3_has (w : World) (ax ay bx by_ cx cy : Int) : Has3 w (B3 w ax ay bx by_ cx cy) ax ay bx by_ cx cy := by
  have e1 : (w.alloc (.cells #[.int .i64 ax, .int .i64 ay] 23)).heap.size = w.heap.size + 1 := by simp
  have e2 : ((w.alloc (.cells #[.int .i64 ax, .int .i64 ay] 23)).alloc (.cells #[.int .i64 bx, .int .i64 by_] 23)).heap.size = w.heap.size + 1 + 1 := by simp
  refine ⟨?_, ?_, ?_, ?_, ?_, ?_, ?_⟩
  · exact cell_al (cell_al (cell_new2 _).1 _) _
  · exact cell_al (cell_al (cell_new2 _).2 _) _
  · rw [← e1]; exact cell_al (cell_new2 _).1 _
  · rw [← e1]; exact cell_al (cell_new2 _).2 _
  · rw [← e2]; exact (cell_new2 _).1
  · rw [← e2]; exact (cell_new2 _).2
  · exact below_on (below_on (below_al w _) (below_al _ _)) (below_al _ _)
theorem B3_size (w : World) (ax ay bx by_ cx cy : Int) : (B3 w ax ay bx by_ cx cy).heap.size = w.heap.size + 1 + 1 + 1 := by unfold B3; simp
theorem S3_pts (w : World) (ax ay bx by_ cx cy : Int) : Pts (S3 w ax ay bx by_ cx cy) (S3 w ax ay bx by_ cx cy).heap.size (some ⟨w.heap.size + 1 + 1 + 1, 0, none⟩) [(ax, ay), (bx, by_), (cx, cy)] := fun _ => by
  refine ⟨_, _, rfl, ?_, ?_⟩
  · unfold S3; rw [← B3_size w ax ay bx by_ cx cy]; simp
  · intro j hj
    unfold S3
    rw [← B3_size w ax ay bx by_ cx cy]
    match j, hj with
    | 0, _ => exact ⟨by simp, by simp⟩
    | 1, _ => exact ⟨by simp, by simp⟩
    | 2, _ => exact ⟨by simp, by simp⟩
theorem S3_has {w v : World} {ax ay bx by_ cx cy : Int} (hb : Below (S3 w ax ay bx by_ cx cy).heap.size (S3 w ax ay bx by_ cx cy) v) : Has3 w v ax ay bx by_ cx cy :=
  ((B3_has w ax ay bx by_ cx cy).later (below_al _ _)).later hb
theorem near3 (w : World) (ax ay bx by_ cx cy : Int) : Calls Try.prog 50 #[.slice (some ⟨w.heap.size + 1 + 1 + 1, 0, none⟩) 3 3] (S3 w ax ay bx by_ cx cy) fun e w' => e = .returned (.bool (nearL [(ax, ay), (bx, by_), (cx, cy)])) ∧ Has3 w w' ax ay bx by_ cx cy :=
  (near_any [(ax, ay), (bx, by_), (cx, cy)] _ 3 _ (by simp) (S3_pts w ax ay bx by_ cx cy)).mono fun e w' ⟨h1, h2⟩ => ⟨h1, S3_has h2⟩
theorem rnear3 (w : World) (ax ay bx by_ cx cy : Int) : Calls Try.prog 21 #[.slice (some ⟨w.heap.size + 1 + 1 + 1, 0, none⟩) 3 3] (S3 w ax ay bx by_ cx cy) fun e w' => e = .returned (.bool (nearL [(ax, ay), (bx, by_), (cx, cy)])) ∧ Has3 w w' ax ay bx by_ cx cy :=
  (rnear_any [(ax, ay), (bx, by_), (cx, cy)] _ 3 _ (by simp) (S3_pts w ax ay bx by_ cx cy)).mono fun e w' ⟨h1, h2⟩ => ⟨h1, S3_has h2⟩
/-- 4 points in boxes, then in an array -/
def B4 (w : World) (ax ay bx by_ cx cy dx dy : Int) : World := ((((w.alloc (.cells #[.int .i64 ax, .int .i64 ay] 23)).alloc (.cells #[.int .i64 bx, .int .i64 by_] 23)).alloc (.cells #[.int .i64 cx, .int .i64 cy] 23)).alloc (.cells #[.int .i64 dx, .int .i64 dy] 23))
def S4 (w : World) (ax ay bx by_ cx cy dx dy : Int) : World := (B4 w ax ay bx by_ cx cy dx dy).alloc (.cells #[.int .i64 ax, .int .i64 ay, .int .i64 bx, .int .i64 by_, .int .i64 cx, .int .i64 cy, .int .i64 dx, .int .i64 dy] 23)
/-- the boxes hold the points, and all that was there is as it was -/
def Has4 (w v : World) (ax ay bx by_ cx cy dx dy : Int) : Prop := v.cell? ⟨w.heap.size, 0, none⟩ = some (.int .i64 ax) ∧ v.cell? ⟨w.heap.size, 1, none⟩ = some (.int .i64 ay) ∧ v.cell? ⟨w.heap.size + 1, 0, none⟩ = some (.int .i64 bx) ∧ v.cell? ⟨w.heap.size + 1, 1, none⟩ = some (.int .i64 by_) ∧ v.cell? ⟨w.heap.size + 1 + 1, 0, none⟩ = some (.int .i64 cx) ∧ v.cell? ⟨w.heap.size + 1 + 1, 1, none⟩ = some (.int .i64 cy) ∧ v.cell? ⟨w.heap.size + 1 + 1 + 1, 0, none⟩ = some (.int .i64 dx) ∧ v.cell? ⟨w.heap.size + 1 + 1 + 1, 1, none⟩ = some (.int .i64 dy) ∧ Below w.heap.size w v
theorem Has4.later {w v u : World} {ax ay bx by_ cx cy dx dy : Int} (h : Has4 w v ax ay bx by_ cx cy dx dy) (hb : Below v.heap.size v u) : Has4 w u ax ay bx by_ cx cy dx dy := by
  obtain ⟨h0, h1, h2, h3, h4, h5, h6, h7, g⟩ := h
  exact ⟨cell_on h0 hb, cell_on h1 hb, cell_on h2 hb, cell_on h3 hb, cell_on h4 hb, cell_on h5 hb, cell_on h6 hb, cell_on h7 hb, below_on g hb⟩
theorem B4_has (w : World) (ax ay bx by_ cx cy dx dy : Int) : Has4 w (B4 w ax ay bx by_ cx cy dx dy) ax ay bx by_ cx cy dx dy := by
  have e1 : (w.alloc (.cells #[.int .i64 ax, .int .i64 ay] 23)).heap.size = w.heap.size + 1 := by simp
  have e2 : ((w.alloc (.cells #[.int .i64 ax, .int .i64 ay] 23)).alloc (.cells #[.int .i64 bx, .int .i64 by_] 23)).heap.size = w.heap.size + 1 + 1 := by simp
  have e3 : (((w.alloc (.cells #[.int .i64 ax, .int .i64 ay] 23)).alloc (.cells #[.int .i64 bx, .int .i64 by_] 23)).alloc (.cells #[.int .i64 cx, .int .i64 cy] 23)).heap.size = w.heap.size + 1 + 1 + 1 := by simp
  refine ⟨?_, ?_, ?_, ?_, ?_, ?_, ?_, ?_, ?_⟩
  · exact cell_al (cell_al (cell_al (cell_new2 _).1 _) _) _
  · exact cell_al (cell_al (cell_al (cell_new2 _).2 _) _) _
  · rw [← e1]; exact cell_al (cell_al (cell_new2 _).1 _) _
  · rw [← e1]; exact cell_al (cell_al (cell_new2 _).2 _) _
  · rw [← e2]; exact cell_al (cell_new2 _).1 _
  · rw [← e2]; exact cell_al (cell_new2 _).2 _
  · rw [← e3]; exact (cell_new2 _).1
  · rw [← e3]; exact (cell_new2 _).2
  · exact below_on (below_on (below_on (below_al w _) (below_al _ _)) (below_al _ _)) (below_al _ _)
theorem B4_size (w : World) (ax ay bx by_ cx cy dx dy : Int) : (B4 w ax ay bx by_ cx cy dx dy).heap.size = w.heap.size + 1 + 1 + 1 + 1 := by unfold B4; simp
theorem S4_pts (w : World) (ax ay bx by_ cx cy dx dy : Int) : Pts (S4 w ax ay bx by_ cx cy dx dy) (S4 w ax ay bx by_ cx cy dx dy).heap.size (some ⟨w.heap.size + 1 + 1 + 1 + 1, 0, none⟩) [(ax, ay), (bx, by_), (cx, cy), (dx, dy)] := fun _ => by
  refine ⟨_, _, rfl, ?_, ?_⟩
  · unfold S4; rw [← B4_size w ax ay bx by_ cx cy dx dy]; simp
  · intro j hj
    unfold S4
    rw [← B4_size w ax ay bx by_ cx cy dx dy]
    match j, hj with
    | 0, _ => exact ⟨by simp, by simp⟩
    | 1, _ => exact ⟨by simp, by simp⟩
    | 2, _ => exact ⟨by simp, by simp⟩
    | 3, _ => exact ⟨by simp, by simp⟩
theorem S4_has {w v : World} {ax ay bx by_ cx cy dx dy : Int} (hb : Below (S4 w ax ay bx by_ cx cy dx dy).heap.size (S4 w ax ay bx by_ cx cy dx dy) v) : Has4 w v ax ay bx by_ cx cy dx dy :=
  ((B4_has w ax ay bx by_ cx cy dx dy).later (below_al _ _)).later hb
theorem near4 (w : World) (ax ay bx by_ cx cy dx dy : Int) : Calls Try.prog 50 #[.slice (some ⟨w.heap.size + 1 + 1 + 1 + 1, 0, none⟩) 4 4] (S4 w ax ay bx by_ cx cy dx dy) fun e w' => e = .returned (.bool (nearL [(ax, ay), (bx, by_), (cx, cy), (dx, dy)])) ∧ Has4 w w' ax ay bx by_ cx cy dx dy :=
  (near_any [(ax, ay), (bx, by_), (cx, cy), (dx, dy)] _ 4 _ (by simp) (S4_pts w ax ay bx by_ cx cy dx dy)).mono fun e w' ⟨h1, h2⟩ => ⟨h1, S4_has h2⟩
theorem rnear4 (w : World) (ax ay bx by_ cx cy dx dy : Int) : Calls Try.prog 21 #[.slice (some ⟨w.heap.size + 1 + 1 + 1 + 1, 0, none⟩) 4 4] (S4 w ax ay bx by_ cx cy dx dy) fun e w' => e = .returned (.bool (nearL [(ax, ay), (bx, by_), (cx, cy), (dx, dy)])) ∧ Has4 w w' ax ay bx by_ cx cy dx dy :=
  (rnear_any [(ax, ay), (bx, by_), (cx, cy), (dx, dy)] _ 4 _ (by simp) (S4_pts w ax ay bx by_ cx cy dx dy)).mono fun e w' ⟨h1, h2⟩ => ⟨h1, S4_has h2⟩
end Go.Proofs.Ytpdiojndfckmfaa
