/- The contract of the law's equal (two directions of which neither is less). -/
import Derived.Test.YtkojdifgmppfpaaGeoPlainE
import Derived.Test.YtkojdifgmppfpaaGeoE
namespace Go.Proofs.Ytkojdifgmppfpaa
open Go.RowKit
open Num Geo
set_option linter.unusedVariables false
set_option maxRecDepth 100000 in
set_option maxHeartbeats 2000000 in
theorem equal_any (ax ay bx by_ cx cy : Int) (w : World) : Calls Try.prog 23 #[.agg #[.int .i64 ax, .int .i64 ay], .agg #[.int .i64 bx, .int .i64 by_], .agg #[.int .i64 cx, .int .i64 cy]] w fun e w' => e = .returned (.bool (eqv ax ay bx by_ cx cy)) ∧ Below w.heap.size w w' := by
  have L1 := Lib.hid (Less_any ax ay bx by_ cx cy)
  have L2 := Lib.hid (Less_any ax ay cx cy bx by_)
  unfold eqv
  generalize lsF ax ay bx by_ cx cy = p at *
  generalize lsF ax ay cx cy bx by_ = q at *
  go_enter Try.func23, Try.ntmps23
  go_wp2_with fail
  have HB := Lib.hid (B3_has w ax ay bx by_ cx cy)
  unfold B3 at HB
  generalize ((w.alloc (.cells #[.int .i64 ax, .int .i64 ay] 23)).alloc (.cells #[.int .i64 bx, .int .i64 by_] 23)).alloc (.cells #[.int .i64 cx, .int .i64 cy] 23) = w1 at *
  refine (L1.out _).mono ?_
  rintro e w2 ⟨rfl, hb⟩
  obtain ⟨c0, c1, c2, c3, c4, c5, hg⟩ := HB.out.later hb
  have G := Lib.hid hg
  clear hg HB hb
  cases p
  · go_wp2_with fail
    refine (L2.out _).mono ?_
    rintro e w3 ⟨rfl, hb⟩
    have G3 := Lib.hid (below_on G.out hb)
    clear hb c0 c1 c2 c3 c4 c5 G
    cases q
    · go_wp2
      go_ret
      exact ⟨rfl, G3.out⟩
    · go_wp2
      go_ret
      exact ⟨rfl, G3.out⟩
  · go_wp2
    go_ret
    exact ⟨rfl, G.out⟩
end Go.Proofs.Ytkojdifgmppfpaa
