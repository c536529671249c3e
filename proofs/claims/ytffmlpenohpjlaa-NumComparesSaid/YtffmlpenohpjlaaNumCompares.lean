/- NumCompares returns true for all fractions: the walk. -/
import Derived.Test.YtffmlpenohpjlaaNumH
import Derived.Test.YtffmlpenohpjlaaNumN
namespace Go.Proofs.Ytffmlpenohpjlaa
open Go.RowKit
open Num
set_option linter.unusedVariables false
set_option maxHeartbeats 2000000 in
theorem compares_wf (an ad bn bd : Int) (w : World) (g1 : (Lit.int .i64 an).wf = true) (g2 : (Lit.int .i64 ad).wf = true) (g3 : (Lit.int .i64 bn).wf = true) (g4 : (Lit.int .i64 bd).wf = true) :
    Calls Try.prog 9 #[.agg #[.int .i64 an, .int .i64 ad], .agg #[.int .i64 bn, .int .i64 bd]] w fun e w' => e = .returned (.bool true) ∧ Below w.heap.size w w' := by
  have C1 := Lib.hid (fun v => cmp_any an ad bn bd v (wf64 g1) (wf64 g2) (wf64 g3) (wf64 g4))
  have C2 := Lib.hid (fun v => rcmp_any an ad bn bd v (wf64 g1) (wf64 g2) (wf64 g3) (wf64 g4))
  have C3 := Lib.hid (fun v => cmp_any bn bd an ad v (wf64 g3) (wf64 g4) (wf64 g1) (wf64 g2))
  have C4 := Lib.hid (fun v => cmp_any an ad an ad v (wf64 g1) (wf64 g2) (wf64 g1) (wf64 g2))
  rw [cmpF_anti an ad bn bd] at C3
  rw [cmpF_same] at C4
  obtain ⟨r1, r2⟩ := cmpF_range an ad bn bd
  generalize cmpF an ad bn bd = n at *
  have f1 : wrap64 (-n) = -n := by unfold wrap64; omega
  clear g1 g2 g3 g4
  go_enter Try.func9, Try.ntmps9
  go_wp2_with fail
  refine (C1.out _).mono ?_
  rintro e w1 ⟨rfl, hb1⟩
  have F1 := Lib.hid (below_on (below_on (below_al w _) (below_al _ _)) hb1)
  obtain ⟨c0, c1, c2, c3⟩ := boxes2 hb1
  clear hb1
  go_wp2_with fail
  refine (awake01 _).mono ?_
  rintro e w2 ⟨rfl, hb2⟩
  have F2 := Lib.hid (below_on F1.out hb2)
  have d0 := cell_on c0 hb2
  have d1 := cell_on c1 hb2
  have d2 := cell_on c2 hb2
  have d3 := cell_on c3 hb2
  clear hb2 c0 c1 c2 c3
  go_wp2_with fail
  refine (C2.out _).mono ?_
  rintro e w3 ⟨rfl, hb3⟩
  have F3 := Lib.hid (below_on F2.out hb3)
  have c0 := cell_on d0 hb3
  have c1 := cell_on d1 hb3
  have c2 := cell_on d2 hb3
  have c3 := cell_on d3 hb3
  clear hb3 d0 d1 d2 d3
  go_wp2_with fail
  refine (C3.out _).mono ?_
  rintro e w4 ⟨rfl, hb4⟩
  have F4 := Lib.hid (below_on F3.out hb4)
  have d0 := cell_on c0 hb4
  have d1 := cell_on c1 hb4
  have d2 := cell_on c2 hb4
  have d3 := cell_on c3 hb4
  clear hb4 c0 c1 c2 c3
  go_wp2_with fail
  refine (C4.out _).mono ?_
  rintro e w5 ⟨rfl, hb5⟩
  have F5 := Lib.hid (below_on F4.out hb5)
  clear hb5
  go_wp2
  go_ret
  exact ⟨rfl, F5.out⟩
end Go.Proofs.Ytffmlpenohpjlaa
