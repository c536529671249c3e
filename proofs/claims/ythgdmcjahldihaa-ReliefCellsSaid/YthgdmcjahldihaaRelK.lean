/- ReliefCells returns true for every grid and cell: the walk. -/
import Derived.Test.YthgdmcjahldihaaRelJ
namespace Go.Proofs.Ythgdmcjahldihaa
open Go.RowKit
set_option linter.unusedVariables false

set_option maxHeartbeats 1000000 in
theorem cells_no (x y W H S : Int) (A : Option Addr) (n c : Nat) (col row : Int) (w : World) (hn : ¬ n ≤ 4200) :
    Calls Try.prog 3 #[hgt x y W H S A n c, .int .i64 col, .int .i64 row] w fun e w' => e = .returned (.bool true) ∧ Below w.heap.size w w' := by
  unfold hgt
  go_enter Try.func3, Try.ntmps3
  go_wp2_with fail
  refine (fair_no _ _ _ _ _ _ _ _ _ hn).mono ?_
  rintro e w1 ⟨rfl, hb1⟩
  have F := Lib.hid (below_step (below_box w _) hb1)
  clear hb1
  go_wp2_with fail
  refine (awake45 _).mono ?_
  rintro e w2 ⟨rfl, hb2⟩
  have F2 := Lib.hid (below_step F.out hb2)
  clear hb2
  go_wp2
  go_ret
  exact ⟨rfl, F2.out⟩
set_option maxHeartbeats 1000000 in
theorem cells_yes (x y W H S : Int) (A : Option Addr) (n c : Nat) (z : Nat → Int) (col row : Int) (w : World) (hn : n ≤ 4200) (hA : Ints w w.heap.size A n z) :
    Calls Try.prog 3 #[hgt x y W H S A n c, .int .i64 col, .int .i64 row] w fun e w' => e = .returned (.bool true) ∧ Below w.heap.size w w' := by
  have HS := Lib.hid (Slope_any x y W H S A n c z col row)
  have HR := Lib.hid (rSlope_any x y W H S A n c z col row)
  have HD := Lib.hid (Shade_any x y W H S A n c z col row)
  have HE := Lib.hid (rShade_any x y W H S A n c z col row)
  generalize Ter.slX x y W H S n z col row = e1 at *
  generalize Ter.slY x y W H S n z col row = e2 at *
  generalize Ter.slE x y W H S n z col row = e3 at *
  generalize Ter.shV x y W H S n z col row = e4 at *
  unfold hgt at HS HR HD HE
  unfold hgt
  have H0 := Lib.hid hA
  clear hA
  go_enter Try.func3, Try.ntmps3
  go_wp2_with fail
  refine (fair_yes _ _ _ _ _ _ _ _ _ hn).mono ?_
  rintro e w1 ⟨rfl, hb1⟩
  have A1 := Lib.hid ((H0.out.later (below_box _ _)).later hb1)
  have F1 := Lib.hid (below_step (below_box w _) hb1)
  have B1 := Lib.hid hb1
  obtain ⟨hcl, hfz⟩ := bcell hb1
  clear hb1
  go_wp2_with fail
  refine (HS.out _ hn A1.out).mono ?_
  rintro e w2 ⟨rfl, hb2⟩
  have A2 := Lib.hid (A1.out.later hb2)
  have F2 := Lib.hid (below_step F1.out hb2)
  have B2 := Lib.hid (below_step B1.out hb2)
  clear hcl hfz hb2
  obtain ⟨hcl, hfz⟩ := bcell B2.out
  go_wp2_with fail
  refine (HR.out _ hn A2.out).mono ?_
  rintro e w3 ⟨rfl, hb2⟩
  have A3 := Lib.hid (A2.out.later hb2)
  have F3 := Lib.hid (below_step F2.out hb2)
  have B3 := Lib.hid (below_step B2.out hb2)
  clear hcl hfz hb2
  obtain ⟨hcl, hfz⟩ := bcell B3.out
  go_wp2_with fail
  refine (HD.out _ hn A3.out).mono ?_
  rintro e w4 ⟨rfl, hb2⟩
  have A4 := Lib.hid (A3.out.later hb2)
  have F4 := Lib.hid (below_step F3.out hb2)
  have B4 := Lib.hid (below_step B3.out hb2)
  clear hcl hfz hb2
  obtain ⟨hcl, hfz⟩ := bcell B4.out
  go_wp2_with fail
  refine (HE.out _ hn A4.out).mono ?_
  rintro e w5 ⟨rfl, hb2⟩
  have F5 := Lib.hid (below_step F4.out hb2)
  clear hcl hfz hb2
  go_wp2_with fail
  refine (awake45 _).mono ?_
  rintro e w6 ⟨rfl, hb2⟩
  have F6 := Lib.hid (below_step F5.out hb2)
  clear hb2
  go_wp2
  go_ret
  exact ⟨rfl, F6.out⟩
end Go.Proofs.Ythgdmcjahldihaa
