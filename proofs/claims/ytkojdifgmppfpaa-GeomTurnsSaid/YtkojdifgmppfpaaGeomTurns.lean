/- GeomTurns returns true for all three points: the walk. -/
import Derived.Test.YtkojdifgmppfpaaGeoN
import Derived.Test.YtkojdifgmppfpaaGeoD
namespace Go.Proofs.Ytkojdifgmppfpaa
open Go.RowKit
open Num Geo
set_option linter.unusedVariables false
set_option maxRecDepth 100000 in
set_option maxHeartbeats 4000000 in
theorem turns_any (ax ay bx by_ cx cy : Int) (w : World) : Calls Try.prog 3 #[.agg #[.int .i64 ax, .int .i64 ay], .agg #[.int .i64 bx, .int .i64 by_], .agg #[.int .i64 cx, .int .i64 cy]] w fun e w' => e = .returned (.bool true) ∧ Below w.heap.size w w' := by
  have T := Lib.hid (Twice_any ax ay bx by_ cx cy)
  have RT := Lib.hid (rTwice_any ax ay bx by_ cx cy)
  have S := Lib.hid (Side_any ax ay bx by_ cx cy)
  have RS := Lib.hid (rSide_any ax ay bx by_ cx cy)
  have O := Lib.hid (On_any ax ay bx by_ cx cy)
  have RO := Lib.hid (rOn_any ax ay bx by_ cx cy)
  generalize twF ax ay bx by_ cx cy = t at *
  generalize sgn t = s at *
  generalize onF ax ay bx by_ cx cy = o at *
  have e1 : (t == t) = true := by simp
  have e2 : (s == s) = true := by simp
  have e3 : (o == o) = true := by simp
  go_enter Try.func3, Try.ntmps3
  go_wp2_with fail
  have HB := Lib.hid (B3_has w ax ay bx by_ cx cy)
  unfold B3 at HB
  generalize ((w.alloc (.cells #[.int .i64 ax, .int .i64 ay] 23)).alloc (.cells #[.int .i64 bx, .int .i64 by_] 23)).alloc (.cells #[.int .i64 cx, .int .i64 cy] 23) = w1 at *
  obtain ⟨c0, c1, c2, c3, c4, c5, hg⟩ := HB.out
  have G := Lib.hid hg
  clear hg HB
  have L0 := fun m : Later w1 => m.cell c0
  have L1 := fun m : Later w1 => m.cell c1
  have L2 := fun m : Later w1 => m.cell c2
  have L3 := fun m : Later w1 => m.cell c3
  have L4 := fun m : Later w1 => m.cell c4
  have L5 := fun m : Later w1 => m.cell c5
  try dsimp only [List.append]
  refine region_later (by kernel_rfl) (by kernel_rfl) ?_
  (go_big_quiet_want; go_big_quiet_op; go_big_quiet_on)
  (go_big_quiet_want; go_big_quiet_op; go_big_quiet_on)
  (go_big_quiet_want; go_big_quiet_op; go_big_quiet_on)
  (go_big_quiet_want; go_big_quiet_op; go_big_quiet_call (exact later_of (T.out _)))
  (go_big_quiet_want; go_big_quiet_op; go_big_quiet_on)
  (go_big_quiet_want; go_big_quiet_op; go_big_quiet_on)
  (go_big_quiet_want; go_big_quiet_op; go_big_quiet_on)
  (go_big_quiet_want; go_big_quiet_op; go_big_quiet_call (exact later_of (RT.out _)))
  (go_big_quiet_want; go_big_quiet_op; go_big_quiet_on)
  (go_big_quiet_want; go_big_quiet_op; go_big_quiet_on)
  (go_big_quiet_want; go_big_quiet_op; go_big_quiet_on)
  (go_big_quiet_want; go_big_quiet_op; go_big_quiet_on)
  (go_big_quiet_want; go_big_quiet_op; go_big_quiet_on)
  (go_big_quiet_want; go_big_quiet_op; go_big_quiet_call (exact later_of (S.out _)))
  (go_big_quiet_want; go_big_quiet_op; go_big_quiet_on)
  (go_big_quiet_want; go_big_quiet_op; go_big_quiet_on)
  (go_big_quiet_want; go_big_quiet_op; go_big_quiet_on)
  (go_big_quiet_want; go_big_quiet_op; go_big_quiet_call (exact later_of (RS.out _)))
  (go_big_quiet_want; go_big_quiet_op; go_big_quiet_on)
  (go_big_quiet_want; go_big_quiet_op; go_big_quiet_on)
  (go_big_quiet_want; go_big_quiet_op; go_big_quiet_on)
  (go_big_quiet_want; go_big_quiet_op; go_big_quiet_on)
  (go_big_quiet_want; go_big_quiet_op; go_big_quiet_on)
  (go_big_quiet_want; go_big_quiet_op; go_big_quiet_on)
  (go_big_quiet_want; go_big_quiet_op; go_big_quiet_call (exact later_of (O.out _)))
  (go_big_quiet_want; go_big_quiet_op; go_big_quiet_on)
  (go_big_quiet_want; go_big_quiet_op; go_big_quiet_on)
  (go_big_quiet_want; go_big_quiet_op; go_big_quiet_on)
  (go_big_quiet_want; go_big_quiet_op; go_big_quiet_call (exact later_of (RO.out _)))
  (go_big_quiet_want; go_big_quiet_op; go_big_quiet_on)
  (go_big_quiet_want; go_big_quiet_op; go_big_quiet_on)
  (go_big_quiet_want; go_big_quiet_op; go_big_quiet_on)
  (go_big_quiet_want; go_big_quiet_op; go_big_quiet_call (exact later_of (awake08 _)))
  (go_big_quiet_want; go_big_quiet_op; go_big_quiet_on)
  (go_big_quiet_want; go_big_quiet_op; go_big_quiet_on)
  refine wpQuiet_nil ?_
  refine later_end ?_
  intro m
  have F2 : Hid (Below w.heap.size w m.wd) := Lib.hid (below_on G.out m.below)
  clear L0 L1 L2 L3 L4 L5 c0 c1 c2 c3 c4 c5
  generalize m.wd = v at *
  go_wp2
  go_ret
  exact ⟨rfl, F2.out⟩
end Go.Proofs.Ytkojdifgmppfpaa
