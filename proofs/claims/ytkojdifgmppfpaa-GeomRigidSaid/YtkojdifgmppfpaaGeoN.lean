/- The contract of the law's awake (mapsheetslaw08): it returns true. -/
import Derived.Test.YtkojdifgmppfpaaGeoG
import Derived.Test.YtkojdifgmppfpaaGeoI
import Derived.Test.YtkojdifgmppfpaaGeoM
namespace Go.Proofs.Ytkojdifgmppfpaa
open Go.RowKit
open Num Geo
set_option linter.unusedVariables false
set_option maxHeartbeats 400000 in
theorem pt_any (x y : Int) (w : World) : Calls Try.prog 36 #[.int .i64 x, .int .i64 y] w fun e w' => e = .returned (.agg #[.int .i64 x, .int .i64 y]) ∧ Below w.heap.size w w' := by
  go_enter Try.func36, Try.ntmps36
  go_wp2
  exact bodyPost_ret (v := .agg #[.int .i64 x, .int .i64 y]) (by simp [results, Try.results36, go_sem]) rfl ⟨rfl, by go_grown⟩
theorem ex0 : twF 0 0 4 0 0 3 = 12 := by decide +kernel
theorem cs0 (w : World) : Calls Try.prog 11 #[.agg #[.int .i64 0, .int .i64 0], .agg #[.int .i64 4, .int .i64 0], .agg #[.int .i64 0, .int .i64 3]] w fun e w' => e = .returned (.int .i64 12) ∧ Below w.heap.size w w' := by
  have h := Twice_any 0 0 4 0 0 3 w
  rw [ex0] at h
  exact h
theorem ex1 : sgn (twF 0 0 0 3 4 0) = -1 := by decide +kernel
theorem cs1 (w : World) : Calls Try.prog 13 #[.agg #[.int .i64 0, .int .i64 0], .agg #[.int .i64 0, .int .i64 3], .agg #[.int .i64 4, .int .i64 0]] w fun e w' => e = .returned (.int .i64 (-1)) ∧ Below w.heap.size w w' := by
  have h := Side_any 0 0 0 3 4 0 w
  rw [ex1] at h
  exact h
theorem ex2 : onF 0 0 4 4 2 2 = true := by decide +kernel
theorem cs2 (w : World) : Calls Try.prog 15 #[.agg #[.int .i64 0, .int .i64 0], .agg #[.int .i64 4, .int .i64 4], .agg #[.int .i64 2, .int .i64 2]] w fun e w' => e = .returned (.bool true) ∧ Below w.heap.size w w' := by
  have h := On_any 0 0 4 4 2 2 w
  rw [ex2] at h
  exact h
theorem ex3 : onF 0 0 4 4 5 5 = false := by decide +kernel
theorem cs3 (w : World) : Calls Try.prog 15 #[.agg #[.int .i64 0, .int .i64 0], .agg #[.int .i64 4, .int .i64 4], .agg #[.int .i64 5, .int .i64 5]] w fun e w' => e = .returned (.bool false) ∧ Below w.heap.size w w' := by
  have h := On_any 0 0 4 4 5 5 w
  rw [ex3] at h
  exact h
theorem ex4 : mtF 0 0 4 4 0 3 3 0 = 1 := by decide +kernel
theorem cs4 (w : World) : Calls Try.prog 19 #[.agg #[.int .i64 0, .int .i64 0], .agg #[.int .i64 4, .int .i64 4], .agg #[.int .i64 0, .int .i64 3], .agg #[.int .i64 3, .int .i64 0]] w fun e w' => e = .returned (.int .i64 1) ∧ Below w.heap.size w w' := by
  have h := Meet_any 0 0 4 4 0 3 3 0 w
  rw [ex4] at h
  exact h
theorem ex5 : mtF 0 0 4 0 2 0 9 0 = 2 := by decide +kernel
theorem cs5 (w : World) : Calls Try.prog 19 #[.agg #[.int .i64 0, .int .i64 0], .agg #[.int .i64 4, .int .i64 0], .agg #[.int .i64 2, .int .i64 0], .agg #[.int .i64 9, .int .i64 0]] w fun e w' => e = .returned (.int .i64 2) ∧ Below w.heap.size w w' := by
  have h := Meet_any 0 0 4 0 2 0 9 0 w
  rw [ex5] at h
  exact h
theorem ex6 : lsF 0 0 5 0 0 1 = true := by decide +kernel
theorem cs6 (w : World) : Calls Try.prog 20 #[.agg #[.int .i64 0, .int .i64 0], .agg #[.int .i64 5, .int .i64 0], .agg #[.int .i64 0, .int .i64 1]] w fun e w' => e = .returned (.bool true) ∧ Below w.heap.size w w' := by
  have h := Less_any 0 0 5 0 0 1 w
  rw [ex6] at h
  exact h
theorem ex7 : lsF 0 0 0 1 2 (-1) = true := by decide +kernel
theorem cs7 (w : World) : Calls Try.prog 20 #[.agg #[.int .i64 0, .int .i64 0], .agg #[.int .i64 0, .int .i64 1], .agg #[.int .i64 2, .int .i64 (-1)]] w fun e w' => e = .returned (.bool true) ∧ Below w.heap.size w w' := by
  have h := Less_any 0 0 0 1 2 (-1) w
  rw [ex7] at h
  exact h
theorem ex8 : lsF 0 0 2 (-1) 5 0 = false := by decide +kernel
theorem cs8 (w : World) : Calls Try.prog 20 #[.agg #[.int .i64 0, .int .i64 0], .agg #[.int .i64 2, .int .i64 (-1)], .agg #[.int .i64 5, .int .i64 0]] w fun e w' => e = .returned (.bool false) ∧ Below w.heap.size w w' := by
  have h := Less_any 0 0 2 (-1) 5 0 w
  rw [ex8] at h
  exact h
theorem ex9 : dsN 0 0 3 1 1 1 = 2 ∧ dsD 0 0 3 1 1 1 = 5 := by decide +kernel
theorem cs9 (w : World) : Calls Try.prog 24 #[.agg #[.int .i64 0, .int .i64 0], .agg #[.int .i64 3, .int .i64 1], .agg #[.int .i64 1, .int .i64 1]] w fun e w' => e = .returned (.agg #[.int .i64 2, .int .i64 5]) ∧ Below w.heap.size w w' := by
  have h := Dist_any 0 0 3 1 1 1 w
  unfold DistOut at h
  rw [ex9.1, ex9.2] at h
  exact h
theorem ex10 : dsN 0 0 (-3) 0 1 1 = 2 ∧ dsD 0 0 (-3) 0 1 1 = 1 := by decide +kernel
theorem cs10 (w : World) : Calls Try.prog 24 #[.agg #[.int .i64 0, .int .i64 0], .agg #[.int .i64 (-3), .int .i64 0], .agg #[.int .i64 1, .int .i64 1]] w fun e w' => e = .returned (.agg #[.int .i64 2, .int .i64 1]) ∧ Below w.heap.size w w' := by
  have h := Dist_any 0 0 (-3) 0 1 1 w
  unfold DistOut at h
  rw [ex10.1, ex10.2] at h
  exact h
theorem ex11 : inB 0 0 4 4 4 0 = true := by decide +kernel
theorem cs11 (w : World) : Calls Try.prog 27 #[.agg #[.int .i64 0, .int .i64 0, .int .i64 4, .int .i64 4], .agg #[.int .i64 4, .int .i64 0]] w fun e w' => e = .returned (.bool true) ∧ Below w.heap.size w w' := by
  have h := In_any 0 0 4 4 4 0 w
  rw [ex11] at h
  exact h
theorem ex12 : ovF 0 0 4 4 4 0 8 4 = false := by decide +kernel
theorem cs12 (w : World) : Calls Try.prog 26 #[.agg #[.int .i64 0, .int .i64 0, .int .i64 4, .int .i64 4], .agg #[.int .i64 4, .int .i64 0, .int .i64 8, .int .i64 4]] w fun e w' => e = .returned (.bool false) ∧ Below w.heap.size w w' := by
  have h := Overlap_any 0 0 4 4 4 0 8 4 w
  rw [ex12] at h
  exact h
theorem ex13 : ovF 0 0 4 4 3 3 5 5 = true := by decide +kernel
theorem cs13 (w : World) : Calls Try.prog 26 #[.agg #[.int .i64 0, .int .i64 0, .int .i64 4, .int .i64 4], .agg #[.int .i64 3, .int .i64 3, .int .i64 5, .int .i64 5]] w fun e w' => e = .returned (.bool true) ∧ Below w.heap.size w w' := by
  have h := Overlap_any 0 0 4 4 3 3 5 5 w
  rw [ex13] at h
  exact h
set_option maxRecDepth 100000 in
set_option maxHeartbeats 4000000 in
theorem awake08 (w : World) : Calls Try.prog 17 #[] w fun e w' => e = .returned (.bool true) ∧ Below w.heap.size w w' := by
  go_enter Try.func17, Try.ntmps17
  go_wp2_with fail
  refine (pt_any 0 0 _).mono ?_
  rintro e w1 ⟨rfl, hb⟩
  go_wp2_with fail
  have F : Hid (Below w.heap.size w (w1.alloc (.cells #[.int .i64 0, .int .i64 0] 23))) := Lib.hid (below_on hb (below_al _ _))
  have c0 := (cell_new2 w1 (x := .int .i64 0) (y := .int .i64 0) (t := 23)).1
  have c1 := (cell_new2 w1 (x := .int .i64 0) (y := .int .i64 0) (t := 23)).2
  clear hb
  generalize w1.alloc (.cells #[.int .i64 0, .int .i64 0] 23) = u at *
  generalize w1.heap.size = s at *
  have L0 := fun m : Later u => m.cell c0
  have L1 := fun m : Later u => m.cell c1
  dsimp only [List.append]
  refine region_later (by kernel_rfl) (by kernel_rfl) ?_
  (go_big_quiet_want; go_big_quiet_op; go_big_quiet_on)
  (go_big_quiet_want; go_big_quiet_op; go_big_quiet_call (exact later_of (pt_any _ _ _)))
  (go_big_quiet_want; go_big_quiet_op; go_big_quiet_call (exact later_of (pt_any _ _ _)))
  (go_big_quiet_want; go_big_quiet_op; go_big_quiet_call (exact later_of (cs0 _)))
  (go_big_quiet_want; go_big_quiet_op; go_big_quiet_on)
  (go_big_quiet_want; go_big_quiet_op; go_big_quiet_on)
  (go_big_quiet_want; go_big_quiet_op; go_big_quiet_on)
  (go_big_quiet_want; go_big_quiet_op; go_big_quiet_call (exact later_of (pt_any _ _ _)))
  (go_big_quiet_want; go_big_quiet_op; go_big_quiet_call (exact later_of (pt_any _ _ _)))
  (go_big_quiet_want; go_big_quiet_op; go_big_quiet_call (exact later_of (cs1 _)))
  (go_big_quiet_want; go_big_quiet_op; go_big_quiet_on)
  (go_big_quiet_want; go_big_quiet_op; go_big_quiet_on)
  (go_big_quiet_want; go_big_quiet_op; go_big_quiet_on)
  (go_big_quiet_want; go_big_quiet_op; go_big_quiet_on)
  (go_big_quiet_want; go_big_quiet_op; go_big_quiet_call (exact later_of (pt_any _ _ _)))
  (go_big_quiet_want; go_big_quiet_op; go_big_quiet_call (exact later_of (pt_any _ _ _)))
  (go_big_quiet_want; go_big_quiet_op; go_big_quiet_call (exact later_of (cs2 _)))
  (go_big_quiet_want; go_big_quiet_op; go_big_quiet_on)
  (go_big_quiet_want; go_big_quiet_op; go_big_quiet_on)
  (go_big_quiet_want; go_big_quiet_op; go_big_quiet_on)
  (go_big_quiet_want; go_big_quiet_op; go_big_quiet_call (exact later_of (pt_any _ _ _)))
  (go_big_quiet_want; go_big_quiet_op; go_big_quiet_call (exact later_of (pt_any _ _ _)))
  (go_big_quiet_want; go_big_quiet_op; go_big_quiet_call (exact later_of (cs3 _)))
  (go_big_quiet_want; go_big_quiet_op; go_big_quiet_on)
  (go_big_quiet_want; go_big_quiet_op; go_big_quiet_on)
  (go_big_quiet_want; go_big_quiet_op; go_big_quiet_on)
  (go_big_quiet_want; go_big_quiet_op; go_big_quiet_on)
  (go_big_quiet_want; go_big_quiet_op; go_big_quiet_call (exact later_of (pt_any _ _ _)))
  (go_big_quiet_want; go_big_quiet_op; go_big_quiet_call (exact later_of (pt_any _ _ _)))
  (go_big_quiet_want; go_big_quiet_op; go_big_quiet_call (exact later_of (pt_any _ _ _)))
  (go_big_quiet_want; go_big_quiet_op; go_big_quiet_call (exact later_of (cs4 _)))
  (go_big_quiet_want; go_big_quiet_op; go_big_quiet_on)
  (go_big_quiet_want; go_big_quiet_op; go_big_quiet_on)
  (go_big_quiet_want; go_big_quiet_op; go_big_quiet_on)
  (go_big_quiet_want; go_big_quiet_op; go_big_quiet_on)
  (go_big_quiet_want; go_big_quiet_op; go_big_quiet_call (exact later_of (pt_any _ _ _)))
  (go_big_quiet_want; go_big_quiet_op; go_big_quiet_call (exact later_of (pt_any _ _ _)))
  (go_big_quiet_want; go_big_quiet_op; go_big_quiet_call (exact later_of (pt_any _ _ _)))
  (go_big_quiet_want; go_big_quiet_op; go_big_quiet_call (exact later_of (cs5 _)))
  (go_big_quiet_want; go_big_quiet_op; go_big_quiet_on)
  (go_big_quiet_want; go_big_quiet_op; go_big_quiet_on)
  (go_big_quiet_want; go_big_quiet_op; go_big_quiet_on)
  (go_big_quiet_want; go_big_quiet_op; go_big_quiet_on)
  (go_big_quiet_want; go_big_quiet_op; go_big_quiet_call (exact later_of (pt_any _ _ _)))
  (go_big_quiet_want; go_big_quiet_op; go_big_quiet_call (exact later_of (pt_any _ _ _)))
  (go_big_quiet_want; go_big_quiet_op; go_big_quiet_call (exact later_of (cs6 _)))
  (go_big_quiet_want; go_big_quiet_op; go_big_quiet_on)
  (go_big_quiet_want; go_big_quiet_op; go_big_quiet_on)
  (go_big_quiet_want; go_big_quiet_op; go_big_quiet_on)
  (go_big_quiet_want; go_big_quiet_op; go_big_quiet_call (exact later_of (pt_any _ _ _)))
  (go_big_quiet_want; go_big_quiet_op; go_big_quiet_call (exact later_of (pt_any _ _ _)))
  (go_big_quiet_want; go_big_quiet_op; go_big_quiet_call (exact later_of (cs7 _)))
  (go_big_quiet_want; go_big_quiet_op; go_big_quiet_on)
  (go_big_quiet_want; go_big_quiet_op; go_big_quiet_on)
  (go_big_quiet_want; go_big_quiet_op; go_big_quiet_on)
  (go_big_quiet_want; go_big_quiet_op; go_big_quiet_call (exact later_of (pt_any _ _ _)))
  (go_big_quiet_want; go_big_quiet_op; go_big_quiet_call (exact later_of (pt_any _ _ _)))
  (go_big_quiet_want; go_big_quiet_op; go_big_quiet_call (exact later_of (cs8 _)))
  (go_big_quiet_want; go_big_quiet_op; go_big_quiet_on)
  (go_big_quiet_want; go_big_quiet_op; go_big_quiet_on)
  (go_big_quiet_want; go_big_quiet_op; go_big_quiet_on)
  (go_big_quiet_want; go_big_quiet_op; go_big_quiet_on)
  (go_big_quiet_want; go_big_quiet_op; go_big_quiet_call (exact later_of (pt_any _ _ _)))
  (go_big_quiet_want; go_big_quiet_op; go_big_quiet_call (exact later_of (pt_any _ _ _)))
  (go_big_quiet_want; go_big_quiet_op; go_big_quiet_call (exact later_of (cs9 _)))
  (go_big_quiet_want; go_big_quiet_op; go_big_quiet_on)
  (go_big_quiet_want; go_big_quiet_op; go_big_quiet_on)
  (go_big_quiet_want; go_big_quiet_op; go_big_quiet_on)
  (go_big_quiet_want; go_big_quiet_op; go_big_quiet_on)
  (go_big_quiet_want; go_big_quiet_op; go_big_quiet_on)
  (go_big_quiet_want; go_big_quiet_op; go_big_quiet_call (exact later_of (pt_any _ _ _)))
  (go_big_quiet_want; go_big_quiet_op; go_big_quiet_call (exact later_of (pt_any _ _ _)))
  (go_big_quiet_want; go_big_quiet_op; go_big_quiet_call (exact later_of (cs10 _)))
  (go_big_quiet_want; go_big_quiet_op; go_big_quiet_on)
  (go_big_quiet_want; go_big_quiet_op; go_big_quiet_on)
  (go_big_quiet_want; go_big_quiet_op; go_big_quiet_on)
  (go_big_quiet_want; go_big_quiet_op; go_big_quiet_on)
  (go_big_quiet_want; go_big_quiet_op; go_big_quiet_on)
  (go_big_quiet_want; go_big_quiet_op; go_big_quiet_call (exact later_of (pt_any _ _ _)))
  (go_big_quiet_want; go_big_quiet_op; go_big_quiet_call (exact later_of (cs11 _)))
  (go_big_quiet_want; go_big_quiet_op; go_big_quiet_on)
  (go_big_quiet_want; go_big_quiet_op; go_big_quiet_on)
  (go_big_quiet_want; go_big_quiet_op; go_big_quiet_on)
  (go_big_quiet_want; go_big_quiet_op; go_big_quiet_on)
  (go_big_quiet_want; go_big_quiet_op; go_big_quiet_call (exact later_of (cs12 _)))
  (go_big_quiet_want; go_big_quiet_op; go_big_quiet_on)
  (go_big_quiet_want; go_big_quiet_op; go_big_quiet_on)
  (go_big_quiet_want; go_big_quiet_op; go_big_quiet_on)
  (go_big_quiet_want; go_big_quiet_op; go_big_quiet_on)
  (go_big_quiet_want; go_big_quiet_op; go_big_quiet_on)
  (go_big_quiet_want; go_big_quiet_op; go_big_quiet_call (exact later_of (cs13 _)))
  (go_big_quiet_want; go_big_quiet_op; go_big_quiet_on)
  (go_big_quiet_want; go_big_quiet_op; go_big_quiet_on)
  refine wpQuiet_nil ?_
  refine later_end ?_
  intro m
  have F2 : Hid (Below w.heap.size w m.wd) := Lib.hid (below_on F.out m.below)
  clear L0 L1 c0 c1
  generalize m.wd = v at *
  go_wp2
  go_ret
  exact ⟨rfl, F2.out⟩
end Go.Proofs.Ytkojdifgmppfpaa
