/- The contract of the reference's Meet: off. -/
import Derived.Test.YtpdiojndfckmfaaGeoP
import Derived.Test.YtpdiojndfckmfaaGeoPlainK
namespace Go.Proofs.Ytpdiojndfckmfaa
open Go.RowKit
open Num Geo
set_option linter.unusedVariables false
set_option maxHeartbeats 2000000 in
theorem rMeet_off (ax ay bx by_ cx cy dx dy : Int) (w : World) (hn : nearL [(ax, ay), (bx, by_), (cx, cy), (dx, dy)] = false) : Calls Try.prog 8 #[.agg #[.int .i64 ax, .int .i64 ay], .agg #[.int .i64 bx, .int .i64 by_], .agg #[.int .i64 cx, .int .i64 cy], .agg #[.int .i64 dx, .int .i64 dy]] w fun e w' => e = .returned (.int .i64 0) ∧ Below w.heap.size w w' := by
  go_enter Try.func8, Try.ntmps8
  go_wp2_with fail
  refine (rnear4 w ax ay bx by_ cx cy dx dy).mono ?_
  rintro e w1 ⟨rfl, c0, c1, c2, c3, c4, c5, c6, c7, hg⟩
  rw [hn]
  have G := Lib.hid hg
  clear hg c0 c1 c2 c3 c4 c5 c6 c7
  go_wp2
  go_ret
  exact ⟨rfl, G.out⟩
end Go.Proofs.Ytpdiojndfckmfaa
