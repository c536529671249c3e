/- GeomDists returns true for all three points: the walk. -/
import Derived.Test.YtkojdifgmppfpaaGeoN
import Derived.Test.YtkojdifgmppfpaaGeoU
namespace Go.Proofs.Ytkojdifgmppfpaa
open Go.RowKit
open Num Geo
set_option linter.unusedVariables false
set_option maxRecDepth 100000 in
set_option maxHeartbeats 4000000 in
theorem dists_any (ax ay bx by_ cx cy : Int) (w : World) : Calls Try.prog 6 #[.agg #[.int .i64 ax, .int .i64 ay], .agg #[.int .i64 bx, .int .i64 by_], .agg #[.int .i64 cx, .int .i64 cy]] w fun e w' => e = .returned (.bool true) ∧ Below w.heap.size w w' := by
  have DA := Dist_any ax ay bx by_ cx cy
  have DR := rDist_any ax ay bx by_ cx cy
  unfold DistOut at DA DR
  generalize dsN ax ay bx by_ cx cy = n at *
  generalize dsD ax ay bx by_ cx cy = q at *
  have en : (n == n) = true := by simp
  have eq : (q == q) = true := by simp
  have DA := Lib.hid DA
  have DR := Lib.hid DR
  have HB := Lib.hid (B3_has w ax ay bx by_ cx cy)
  unfold B3 at HB
  go_enter Try.func6, Try.ntmps6
  go_wp2_with fail
  generalize ((w.alloc (.cells #[.int .i64 ax, .int .i64 ay] 23)).alloc (.cells #[.int .i64 bx, .int .i64 by_] 23)).alloc (.cells #[.int .i64 cx, .int .i64 cy] 23) = u at *
  obtain ⟨c0, c1, c2, c3, c4, c5, hg⟩ := HB.out
  clear hg
  have L0 := fun k : Later u => k.cell c0
  have L1 := fun k : Later u => k.cell c1
  have L2 := fun k : Later u => k.cell c2
  have L3 := fun k : Later u => k.cell c3
  have L4 := fun k : Later u => k.cell c4
  have L5 := fun k : Later u => k.cell c5
  refine region_later (by kernel_rfl) (by kernel_rfl) ?_
  (go_big_quiet_want; go_big_quiet_op; go_big_quiet_on)
  (go_big_quiet_want; go_big_quiet_op; go_big_quiet_on)
  (go_big_quiet_want; go_big_quiet_op; go_big_quiet_on)
  (go_big_quiet_want; go_big_quiet_op; go_big_quiet_call (exact later_of (DA.out _)))
  (go_big_quiet_want; go_big_quiet_op; go_big_quiet_on)
  (go_big_quiet_want; go_big_quiet_op; go_big_quiet_on)
  (go_big_quiet_want; go_big_quiet_op; go_big_quiet_on)
  (go_big_quiet_want; go_big_quiet_op; go_big_quiet_call (exact later_of (DR.out _)))
  (go_big_quiet_want; go_big_quiet_op; go_big_quiet_on)
  (go_big_quiet_want; go_big_quiet_op; go_big_quiet_on)
  (go_big_quiet_want; go_big_quiet_op; go_big_quiet_call (exact later_of (awake08 _)))
  (go_big_quiet_want; go_big_quiet_op; go_big_quiet_on)
  (go_big_quiet_want; go_big_quiet_op; go_big_quiet_on)
  refine wpQuiet_nil ?_
  refine later_end ?_
  intro k
  have G := Lib.hid (below_on HB.out.2.2.2.2.2.2 k.below)
  clear HB L0 L1 L2 L3 L4 L5 c0 c1 c2 c3 c4 c5
  generalize k.wd = v at *
  go_wp2
  go_ret
  exact ⟨rfl, G.out⟩
end Go.Proofs.Ytkojdifgmppfpaa
