/- GeomBoxes returns true for all boxes and points: the walk. -/
import Derived.Test.YtkojdifgmppfpaaGeoN
namespace Go.Proofs.Ytkojdifgmppfpaa
open Go.RowKit
open Num Geo
set_option linter.unusedVariables false
theorem ov_sym (a0 a1 a2 a3 b0 b1 b2 b3 : Int) : ovF b0 b1 b2 b3 a0 a1 a2 a3 = ovF a0 a1 a2 a3 b0 b1 b2 b3 := by
  unfold ovF; rw [Int.max_comm b0, Int.min_comm b2, Int.max_comm b1, Int.min_comm b3]
theorem ov_self {a0 a1 a2 a3 b0 b1 b2 b3 : Int} (h : ovF a0 a1 a2 a3 b0 b1 b2 b3 = true) : ovF a0 a1 a2 a3 a0 a1 a2 a3 = true := by
  unfold ovF at *; simp only [Bool.and_eq_true, decide_eq_true_eq] at *; omega
theorem BB_has (w : World) (a0 a1 a2 a3 b0 b1 b2 b3 px py : Int) : ∃ u, u = ((w.alloc (.cells #[.int .i64 a0, .int .i64 a1, .int .i64 a2, .int .i64 a3] 35)).alloc (.cells #[.int .i64 b0, .int .i64 b1, .int .i64 b2, .int .i64 b3] 35)).alloc (.cells #[.int .i64 px, .int .i64 py] 23) ∧ u.cell? ⟨w.heap.size, 0, none⟩ = some (.int .i64 a0) ∧ u.cell? ⟨w.heap.size, 1, none⟩ = some (.int .i64 a1) ∧ u.cell? ⟨w.heap.size, 2, none⟩ = some (.int .i64 a2) ∧ u.cell? ⟨w.heap.size, 3, none⟩ = some (.int .i64 a3) ∧ u.cell? ⟨w.heap.size + 1, 0, none⟩ = some (.int .i64 b0) ∧ u.cell? ⟨w.heap.size + 1, 1, none⟩ = some (.int .i64 b1) ∧ u.cell? ⟨w.heap.size + 1, 2, none⟩ = some (.int .i64 b2) ∧ u.cell? ⟨w.heap.size + 1, 3, none⟩ = some (.int .i64 b3) ∧ u.cell? ⟨w.heap.size + 1 + 1, 0, none⟩ = some (.int .i64 px) ∧ u.cell? ⟨w.heap.size + 1 + 1, 1, none⟩ = some (.int .i64 py) ∧ Below w.heap.size w u := by
  refine ⟨_, rfl, ?_⟩
  have e1 : (w.alloc (.cells #[.int .i64 a0, .int .i64 a1, .int .i64 a2, .int .i64 a3] 35)).heap.size = w.heap.size + 1 := by simp
  have e2 : ((w.alloc (.cells #[.int .i64 a0, .int .i64 a1, .int .i64 a2, .int .i64 a3] 35)).alloc (.cells #[.int .i64 b0, .int .i64 b1, .int .i64 b2, .int .i64 b3] 35)).heap.size = w.heap.size + 1 + 1 := by simp
  refine ⟨?_, ?_, ?_, ?_, ?_, ?_, ?_, ?_, ?_, ?_, ?_⟩
  · exact cell_al (cell_al (by simp) _) _
  · exact cell_al (cell_al (by simp) _) _
  · exact cell_al (cell_al (by simp) _) _
  · exact cell_al (cell_al (by simp) _) _
  · rw [← e1]; exact cell_al (by simp) _
  · rw [← e1]; exact cell_al (by simp) _
  · rw [← e1]; exact cell_al (by simp) _
  · rw [← e1]; exact cell_al (by simp) _
  · rw [← e2]; exact (cell_new2 _).1
  · rw [← e2]; exact (cell_new2 _).2
  · exact below_on (below_on (below_al _ _) (below_al _ _)) (below_al _ _)
set_option maxRecDepth 100000 in
set_option maxHeartbeats 4000000 in
theorem boxes_any (a0 a1 a2 a3 b0 b1 b2 b3 px py : Int) (w : World) : Calls Try.prog 7 #[.agg #[.int .i64 a0, .int .i64 a1, .int .i64 a2, .int .i64 a3], .agg #[.int .i64 b0, .int .i64 b1, .int .i64 b2, .int .i64 b3], .agg #[.int .i64 px, .int .i64 py]] w fun e w' => e = .returned (.bool true) ∧ Below w.heap.size w w' := by
  have I := Lib.hid (In_any a0 a1 a2 a3 px py)
  have RI := Lib.hid (rIn_any a0 a1 a2 a3 px py)
  have O := Lib.hid (Overlap_any a0 a1 a2 a3 b0 b1 b2 b3)
  have RO := Lib.hid (rOverlap_any a0 a1 a2 a3 b0 b1 b2 b3)
  have OB := Lib.hid (Overlap_any b0 b1 b2 b3 a0 a1 a2 a3)
  have OS := Lib.hid (Overlap_any a0 a1 a2 a3 a0 a1 a2 a3)
  rw [ov_sym] at OB
  have hs := @ov_self a0 a1 a2 a3 b0 b1 b2 b3
  generalize inB a0 a1 a2 a3 px py = i at *
  generalize ovF a0 a1 a2 a3 b0 b1 b2 b3 = o at *
  generalize ovF a0 a1 a2 a3 a0 a1 a2 a3 = s at *
  have e1 : (i == i) = true := by simp
  cases o
  · go_enter Try.func7, Try.ntmps7
    go_wp2_with fail
    obtain ⟨u, hu, c0, c1, c2, c3, c4, c5, c6, c7, c8, c9, hg⟩ := BB_has w a0 a1 a2 a3 b0 b1 b2 b3 px py
    rw [← hu]
    have G0 := Lib.hid hg
    clear hg hu
    refine (O.out _).mono ?_
    rintro e w1 ⟨rfl, hb⟩
    have d0 := cell_on c0 hb
    have d1 := cell_on c1 hb
    have d2 := cell_on c2 hb
    have d3 := cell_on c3 hb
    have d4 := cell_on c4 hb
    have d5 := cell_on c5 hb
    have d6 := cell_on c6 hb
    have d7 := cell_on c7 hb
    have d8 := cell_on c8 hb
    have d9 := cell_on c9 hb
    have G := Lib.hid (below_on G0.out hb)
    clear hb G0 c0 c1 c2 c3 c4 c5 c6 c7 c8 c9
    go_wp2_with fail
    have L0 := fun m : Later w1 => m.cell d0
    have L1 := fun m : Later w1 => m.cell d1
    have L2 := fun m : Later w1 => m.cell d2
    have L3 := fun m : Later w1 => m.cell d3
    have L4 := fun m : Later w1 => m.cell d4
    have L5 := fun m : Later w1 => m.cell d5
    have L6 := fun m : Later w1 => m.cell d6
    have L7 := fun m : Later w1 => m.cell d7
    have L8 := fun m : Later w1 => m.cell d8
    have L9 := fun m : Later w1 => m.cell d9
    refine region_later (by kernel_rfl) (by kernel_rfl) ?_
    (go_big_quiet_want; go_big_quiet_op; go_big_quiet_on)
    (go_big_quiet_want; go_big_quiet_op; go_big_quiet_on)
    (go_big_quiet_want; go_big_quiet_op; go_big_quiet_call (exact later_of (I.out _)))
    (go_big_quiet_want; go_big_quiet_op; go_big_quiet_on)
    (go_big_quiet_want; go_big_quiet_op; go_big_quiet_on)
    (go_big_quiet_want; go_big_quiet_op; go_big_quiet_call (exact later_of (RI.out _)))
    (go_big_quiet_want; go_big_quiet_op; go_big_quiet_on)
    (go_big_quiet_want; go_big_quiet_op; go_big_quiet_on)
    (go_big_quiet_want; go_big_quiet_op; go_big_quiet_on)
    (go_big_quiet_want; go_big_quiet_op; go_big_quiet_on)
    (go_big_quiet_want; go_big_quiet_op; go_big_quiet_on)
    (go_big_quiet_want; go_big_quiet_op; go_big_quiet_call (exact later_of (RO.out _)))
    (go_big_quiet_want; go_big_quiet_op; go_big_quiet_on)
    (go_big_quiet_want; go_big_quiet_op; go_big_quiet_on)
    (go_big_quiet_want; go_big_quiet_op; go_big_quiet_on)
    (go_big_quiet_want; go_big_quiet_op; go_big_quiet_on)
    (go_big_quiet_want; go_big_quiet_op; go_big_quiet_on)
    (go_big_quiet_want; go_big_quiet_op; go_big_quiet_on)
    (go_big_quiet_want; go_big_quiet_op; go_big_quiet_call (exact later_of (OB.out _)))
    (go_big_quiet_want; go_big_quiet_op; go_big_quiet_on)
    (go_big_quiet_want; go_big_quiet_op; go_big_quiet_on)
    (go_big_quiet_want; go_big_quiet_op; go_big_quiet_on)
    (go_big_quiet_want; go_big_quiet_op; go_big_quiet_on)
    (go_big_quiet_want; go_big_quiet_op; go_big_quiet_on)
    (go_big_quiet_want; go_big_quiet_op; go_big_quiet_on)
    go_big_quiet_skip
    go_big_quiet_skip
    go_big_quiet_skip
    (go_big_quiet_want; go_big_quiet_op; go_big_quiet_on)
    (go_big_quiet_want; go_big_quiet_op; go_big_quiet_on)
    (go_big_quiet_want; go_big_quiet_op; go_big_quiet_on)
    (go_big_quiet_want; go_big_quiet_op; go_big_quiet_call (exact later_of (awake08 _)))
    (go_big_quiet_want; go_big_quiet_op; go_big_quiet_on)
    (go_big_quiet_want; go_big_quiet_op; go_big_quiet_on)
    refine wpQuiet_nil ?_
    refine later_end ?_
    intro m
    have F2 : Hid (Below w.heap.size w m.wd) := Lib.hid (below_on G.out m.below)
    clear L0 L1 L2 L3 L4 L5 L6 L7 L8 L9 d0 d1 d2 d3 d4 d5 d6 d7 d8 d9
    generalize m.wd = v at *
    go_wp2
    go_ret
    exact ⟨rfl, F2.out⟩
  · obtain rfl := hs rfl
    go_enter Try.func7, Try.ntmps7
    go_wp2_with fail
    obtain ⟨u, hu, c0, c1, c2, c3, c4, c5, c6, c7, c8, c9, hg⟩ := BB_has w a0 a1 a2 a3 b0 b1 b2 b3 px py
    rw [← hu]
    have G0 := Lib.hid hg
    clear hg hu
    refine (O.out _).mono ?_
    rintro e w1 ⟨rfl, hb⟩
    have d0 := cell_on c0 hb
    have d1 := cell_on c1 hb
    have d2 := cell_on c2 hb
    have d3 := cell_on c3 hb
    have d4 := cell_on c4 hb
    have d5 := cell_on c5 hb
    have d6 := cell_on c6 hb
    have d7 := cell_on c7 hb
    have d8 := cell_on c8 hb
    have d9 := cell_on c9 hb
    have G := Lib.hid (below_on G0.out hb)
    clear hb G0 c0 c1 c2 c3 c4 c5 c6 c7 c8 c9
    go_wp2_with fail
    have L0 := fun m : Later w1 => m.cell d0
    have L1 := fun m : Later w1 => m.cell d1
    have L2 := fun m : Later w1 => m.cell d2
    have L3 := fun m : Later w1 => m.cell d3
    have L4 := fun m : Later w1 => m.cell d4
    have L5 := fun m : Later w1 => m.cell d5
    have L6 := fun m : Later w1 => m.cell d6
    have L7 := fun m : Later w1 => m.cell d7
    have L8 := fun m : Later w1 => m.cell d8
    have L9 := fun m : Later w1 => m.cell d9
    refine region_later (by kernel_rfl) (by kernel_rfl) ?_
    (go_big_quiet_want; go_big_quiet_op; go_big_quiet_on)
    (go_big_quiet_want; go_big_quiet_op; go_big_quiet_on)
    (go_big_quiet_want; go_big_quiet_op; go_big_quiet_call (exact later_of (I.out _)))
    (go_big_quiet_want; go_big_quiet_op; go_big_quiet_on)
    (go_big_quiet_want; go_big_quiet_op; go_big_quiet_on)
    (go_big_quiet_want; go_big_quiet_op; go_big_quiet_call (exact later_of (RI.out _)))
    (go_big_quiet_want; go_big_quiet_op; go_big_quiet_on)
    (go_big_quiet_want; go_big_quiet_op; go_big_quiet_on)
    (go_big_quiet_want; go_big_quiet_op; go_big_quiet_on)
    (go_big_quiet_want; go_big_quiet_op; go_big_quiet_on)
    (go_big_quiet_want; go_big_quiet_op; go_big_quiet_on)
    (go_big_quiet_want; go_big_quiet_op; go_big_quiet_call (exact later_of (RO.out _)))
    (go_big_quiet_want; go_big_quiet_op; go_big_quiet_on)
    (go_big_quiet_want; go_big_quiet_op; go_big_quiet_on)
    (go_big_quiet_want; go_big_quiet_op; go_big_quiet_on)
    (go_big_quiet_want; go_big_quiet_op; go_big_quiet_on)
    (go_big_quiet_want; go_big_quiet_op; go_big_quiet_on)
    (go_big_quiet_want; go_big_quiet_op; go_big_quiet_on)
    (go_big_quiet_want; go_big_quiet_op; go_big_quiet_call (exact later_of (OB.out _)))
    (go_big_quiet_want; go_big_quiet_op; go_big_quiet_on)
    (go_big_quiet_want; go_big_quiet_op; go_big_quiet_on)
    (go_big_quiet_want; go_big_quiet_op; go_big_quiet_on)
    (go_big_quiet_want; go_big_quiet_op; go_big_quiet_on)
    (go_big_quiet_want; go_big_quiet_op; go_big_quiet_on)
    (go_big_quiet_want; go_big_quiet_op; go_big_quiet_on)
    (go_big_quiet_want; go_big_quiet_op; go_big_quiet_on)
    (go_big_quiet_want; go_big_quiet_op; go_big_quiet_on)
    (go_big_quiet_want; go_big_quiet_op; go_big_quiet_call (exact later_of (OS.out _)))
    (go_big_quiet_want; go_big_quiet_op; go_big_quiet_on)
    (go_big_quiet_want; go_big_quiet_op; go_big_quiet_on)
    (go_big_quiet_want; go_big_quiet_op; go_big_quiet_on)
    (go_big_quiet_want; go_big_quiet_op; go_big_quiet_call (exact later_of (awake08 _)))
    (go_big_quiet_want; go_big_quiet_op; go_big_quiet_on)
    (go_big_quiet_want; go_big_quiet_op; go_big_quiet_on)
    refine wpQuiet_nil ?_
    refine later_end ?_
    intro m
    have F2 : Hid (Below w.heap.size w m.wd) := Lib.hid (below_on G.out m.below)
    clear L0 L1 L2 L3 L4 L5 L6 L7 L8 L9 d0 d1 d2 d3 d4 d5 d6 d7 d8 d9
    generalize m.wd = v at *
    go_wp2
    go_ret
    exact ⟨rfl, F2.out⟩
end Go.Proofs.Ytkojdifgmppfpaa
