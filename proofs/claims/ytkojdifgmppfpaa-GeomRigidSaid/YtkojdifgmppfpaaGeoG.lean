/- The contracts of In and Overlap, and of the reference's. -/
import Derived.Test.YtkojdifgmppfpaaGeoC
import Derived.Test.YtkojdifgmppfpaaGeoPlainC
namespace Go.Proofs.Ytkojdifgmppfpaa
open Go.RowKit
open Num Geo
set_option linter.unusedVariables false
set_option maxHeartbeats 2000000 in
theorem In_any (x0 y0 x1 y1 px py : Int) (w : World) :
    Calls Try.prog 27 #[.agg #[.int .i64 x0, .int .i64 y0, .int .i64 x1, .int .i64 y1], .agg #[.int .i64 px, .int .i64 py]] w fun e w' => e = .returned (.bool (inB x0 y0 x1 y1 px py)) ∧ Below w.heap.size w w' := by
  have HF : Hid (inB x0 y0 x1 y1 px py = _) := Lib.hid (by unfold inB; rfl)
  go_enter Try.func27, Try.ntmps27
  go_wp2
  all_goals
    go_ret
    refine ⟨ret_bool' (Eq.trans ?_ HF.out.symm), by go_grown⟩
    first | (simp [*]; done) | (simp [*]; omega) | (rw [Bool.eq_iff_iff]; simp; omega)
set_option maxHeartbeats 2000000 in
theorem rIn_any (x0 y0 x1 y1 px py : Int) (w : World) :
    Calls Try.prog 28 #[.agg #[.int .i64 x0, .int .i64 y0, .int .i64 x1, .int .i64 y1], .agg #[.int .i64 px, .int .i64 py]] w fun e w' => e = .returned (.bool (inB x0 y0 x1 y1 px py)) ∧ Below w.heap.size w w' := by
  have HF : Hid (inB x0 y0 x1 y1 px py = _) := Lib.hid (by unfold inB; rfl)
  go_enter Try.func28, Try.ntmps28
  go_wp2
  all_goals
    go_ret
    refine ⟨ret_bool' (Eq.trans ?_ HF.out.symm), by go_grown⟩
    first | (simp [*]; done) | (simp [*]; omega) | (rw [Bool.eq_iff_iff]; simp; omega)
set_option maxHeartbeats 2000000 in
theorem Overlap_any (x0 y0 x1 y1 u0 v0 u1 v1 : Int) (w : World) :
    Calls Try.prog 26 #[.agg #[.int .i64 x0, .int .i64 y0, .int .i64 x1, .int .i64 y1], .agg #[.int .i64 u0, .int .i64 v0, .int .i64 u1, .int .i64 v1]] w fun e w' => e = .returned (.bool (ovF x0 y0 x1 y1 u0 v0 u1 v1)) ∧ Below w.heap.size w w' := by
  have HF : Hid (ovF x0 y0 x1 y1 u0 v0 u1 v1 = _) := Lib.hid (by unfold ovF; rfl)
  go_enter Try.func26, Try.ntmps26
  go_wp2
  all_goals
    go_ret
    refine ⟨ret_bool' (Eq.trans ?_ HF.out.symm), by go_grown⟩
    first | (simp [*]; done) | (simp [*]; omega) | (rw [Bool.eq_iff_iff]; simp; omega)
set_option maxHeartbeats 2000000 in
theorem rOverlap_any (x0 y0 x1 y1 u0 v0 u1 v1 : Int) (w : World) :
    Calls Try.prog 29 #[.agg #[.int .i64 x0, .int .i64 y0, .int .i64 x1, .int .i64 y1], .agg #[.int .i64 u0, .int .i64 v0, .int .i64 u1, .int .i64 v1]] w fun e w' => e = .returned (.bool (ovF x0 y0 x1 y1 u0 v0 u1 v1)) ∧ Below w.heap.size w w' := by
  have HF : Hid (ovF x0 y0 x1 y1 u0 v0 u1 v1 = _) := Lib.hid (by unfold ovF; rfl)
  go_enter Try.func29, Try.ntmps29
  go_wp2
  all_goals
    go_ret
    refine ⟨ret_bool' (Eq.trans ?_ HF.out.symm), by go_grown⟩
    first | (simp [*]; done) | (simp [*]; omega) | (rw [Bool.eq_iff_iff]; simp; omega)
end Go.Proofs.Ytkojdifgmppfpaa
