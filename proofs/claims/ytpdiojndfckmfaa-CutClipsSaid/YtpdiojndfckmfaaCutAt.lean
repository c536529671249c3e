/- CutAt returns true for all points and coordinates: the walk. -/
import Derived.Test.YtpdiojndfckmfaaCutM
namespace Go.Proofs.Ytpdiojndfckmfaa
open Go.RowKit
open Num Geo Cut
set_option linter.unusedVariables false
theorem wf64 {n : Int} (h : (Lit.int .i64 n).wf = true) : I64 n := by
  simp only [Lit.wf, Bool.and_eq_true, decide_eq_true_eq] at h
  have e1 : IntKind.i64.min = -9223372036854775808 := by decide
  have e2 : IntKind.i64.max = 9223372036854775807 := by decide
  rw [e1, e2] at h; exact h
set_option maxRecDepth 100000 in
set_option maxHeartbeats 8000000 in
theorem at_law (ax ay bx by_ v : Int) (w : World) (g1 : (Lit.int .i64 ax).wf = true) (g2 : (Lit.int .i64 ay).wf = true) (g3 : (Lit.int .i64 bx).wf = true) (g4 : (Lit.int .i64 by_).wf = true) (hv : (Lit.int .i64 v).wf = true) : Calls Try.prog 5 #[.agg #[.int .i64 ax, .int .i64 ay], .agg #[.int .i64 bx, .int .i64 by_], .int .i64 v] w fun e w' => e = .returned (.bool true) ∧ Below w.heap.size w w' := by
  have hi := wf64 hv
  clear hv g1 g2 g3 g4
  have A1 := Lib.hid (fun u => AtX_any ax ay bx by_ v u hi)
  have A2 := Lib.hid (fun u => rAtX_any ax ay bx by_ v u hi)
  have A3 := Lib.hid (fun u => AtX_any bx by_ ax ay v u hi)
  have Y1 := Lib.hid (fun u => AtY_any ax ay bx by_ v u hi)
  have Y2 := Lib.hid (fun u => rAtY_any ax ay bx by_ v u hi)
  have Y3 := Lib.hid (fun u => AtY_any bx by_ ax ay v u hi)
  have AW := Lib.hid awake09
  obtain ⟨e1, e2⟩ := at_back ax ay bx by_ v
  obtain ⟨e3, e4⟩ := at_back ay ax by_ bx v
  rw [e1, e2] at A3
  rw [e3, e4] at Y3
  clear e1 e2 e3 e4 hi
  generalize atV ax ay bx by_ v = V at *
  generalize atE ax ay bx by_ v = E at *
  generalize atV ay ax by_ bx v = V2 at *
  generalize atE ay ax by_ bx v = E2 at *
  go_enter Try.func5, Try.ntmps5
  go_wp2_with fail
  have H0 := Lib.hid (B2_has w ax ay bx by_)
  unfold B2 at H0
  generalize (w.alloc (.cells #[.int .i64 ax, .int .i64 ay] 23)).alloc (.cells #[.int .i64 bx, .int .i64 by_] 23) = w0 at *
  refine (A1.out _).mono ?_
  rintro e w1 ⟨rfl, hb⟩
  have H1 := Lib.hid (H0.out.later hb)
  clear hb H0 A1
  obtain ⟨c0, c1, c2, c3, -⟩ := H1.out
  go_wp2_with fail
  refine (A2.out _).mono ?_
  rintro e w2 ⟨rfl, hb⟩
  have H2 := Lib.hid (H1.out.later hb)
  clear hb H1 A2 c0 c1 c2 c3
  obtain ⟨c0, c1, c2, c3, -⟩ := H2.out
  go_wp2_with fail
  refine (A3.out _).mono ?_
  rintro e w3 ⟨rfl, hb⟩
  have H3 := Lib.hid (H2.out.later hb)
  clear hb H2 A3 c0 c1 c2 c3
  obtain ⟨c0, c1, c2, c3, -⟩ := H3.out
  go_wp2_with fail
  refine (Y1.out _).mono ?_
  rintro e w4 ⟨rfl, hb⟩
  have H4 := Lib.hid (H3.out.later hb)
  clear hb H3 Y1 c0 c1 c2 c3
  obtain ⟨c0, c1, c2, c3, -⟩ := H4.out
  go_wp2_with fail
  refine (Y2.out _).mono ?_
  rintro e w5 ⟨rfl, hb⟩
  have H5 := Lib.hid (H4.out.later hb)
  clear hb H4 Y2 c0 c1 c2 c3
  obtain ⟨c0, c1, c2, c3, -⟩ := H5.out
  go_wp2_with fail
  refine (Y3.out _).mono ?_
  rintro e w6 ⟨rfl, hb⟩
  have H6 := Lib.hid (H5.out.later hb)
  clear hb H5 Y3 c0 c1 c2 c3
  go_wp2_with fail
  refine (AW.out _).mono ?_
  rintro e w7 ⟨rfl, hb⟩
  have H7 := Lib.hid (H6.out.later hb).2.2.2.2
  clear hb H6 AW
  go_wp2
  go_ret
  exact ⟨rfl, H7.out⟩
end Go.Proofs.Ytpdiojndfckmfaa
