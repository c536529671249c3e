/- The contracts of In and Overlap, and of the reference's. -/
import Derived.Test.YtpdiojndfckmfaaGeoC
import Derived.Test.YtpdiojndfckmfaaCutBase
namespace Go.Proofs.Ytpdiojndfckmfaa
open Go.RowKit
open Num Geo
set_option linter.unusedVariables false
set_option maxHeartbeats 2000000 in
theorem In_any (x0 y0 x1 y1 px py : Int) (w : World) :
    Calls Try.prog 48 #[.agg #[.int .i64 x0, .int .i64 y0, .int .i64 x1, .int .i64 y1], .agg #[.int .i64 px, .int .i64 py]] w fun e w' => e = .returned (.bool (inB x0 y0 x1 y1 px py)) ∧ Below w.heap.size w w' := by
  have HF : Hid (inB x0 y0 x1 y1 px py = _) := Lib.hid (by unfold inB; rfl)
  go_enter Try.func48, Try.ntmps48
  go_wp2
  all_goals
    go_ret
    refine ⟨ret_bool' (Eq.trans ?_ HF.out.symm), by go_grown⟩
    first | (simp [*]; done) | (simp [*]; omega) | (rw [Bool.eq_iff_iff]; simp; omega)
set_option maxHeartbeats 2000000 in
theorem rIn_any (x0 y0 x1 y1 px py : Int) (w : World) :
    Calls Try.prog 20 #[.agg #[.int .i64 x0, .int .i64 y0, .int .i64 x1, .int .i64 y1], .agg #[.int .i64 px, .int .i64 py]] w fun e w' => e = .returned (.bool (inB x0 y0 x1 y1 px py)) ∧ Below w.heap.size w w' := by
  have HF : Hid (inB x0 y0 x1 y1 px py = _) := Lib.hid (by unfold inB; rfl)
  go_enter Try.func20, Try.ntmps20
  go_wp2
  all_goals
    go_ret
    refine ⟨ret_bool' (Eq.trans ?_ HF.out.symm), by go_grown⟩
    first | (simp [*]; done) | (simp [*]; omega) | (rw [Bool.eq_iff_iff]; simp; omega)
end Go.Proofs.Ytpdiojndfckmfaa
