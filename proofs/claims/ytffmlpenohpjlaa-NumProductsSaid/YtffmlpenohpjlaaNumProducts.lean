/- NumProducts returns true for all ints: the walk. -/
import Derived.Test.YtffmlpenohpjlaaNumH
import Derived.Test.YtffmlpenohpjlaaNumK
import Derived.Test.YtffmlpenohpjlaaNumM
import Derived.Test.YtffmlpenohpjlaaBox
namespace Go.Proofs.Ytffmlpenohpjlaa
open Go.RowKit
open Num
set_option linter.unusedVariables false
set_option maxHeartbeats 1000000 in
theorem products_wf (a b c : Int) (w : World) (hw1 : (Lit.int .i64 a).wf = true) (hw2 : (Lit.int .i64 b).wf = true) (hw3 : (Lit.int .i64 c).wf = true) : Calls Try.prog 5 #[.int .i64 a, .int .i64 b, .int .i64 c] w fun e w' => e = .returned (.bool true) ∧ Below w.heap.size w w' := by
  have M1 := Lib.hid (fun v => muldiv_any a b c v (wf64 hw1) (wf64 hw2) (wf64 hw3))
  have M2 := Lib.hid (fun v => muldiv_any b a c v (wf64 hw2) (wf64 hw1) (wf64 hw3))
  have M3 := Lib.hid (fun v => rmuldiv_any a b c v (wf64 hw1) (wf64 hw2) (wf64 hw3))
  rw [← (md_comm a b c).1, ← (md_comm a b c).2] at M2
  generalize mdV a b c = p at *
  generalize mdE a b c = r at *
  clear hw1 hw2 hw3
  go_enter Try.func5, Try.ntmps5
  go_wp2_with fail
  refine (M1.out _).mono ?_
  rintro e w' ⟨rfl, n1, rfl⟩
  go_wp2_with fail
  refine (M2.out _).mono ?_
  rintro e w' ⟨rfl, n2, rfl⟩
  go_wp2_with fail
  refine (M3.out _).mono ?_
  rintro e w' ⟨rfl, n3, rfl⟩
  go_wp2_with fail
  refine (awake01 _).mono ?_
  rintro e w1 ⟨rfl, hb1⟩
  have F1 : Hid (Below w.heap.size w w1) := Lib.hid (below_on (below_dn (Below.refl _ _) _) hb1)
  clear hb1
  go_wp2
  go_ret
  exact ⟨rfl, F1.out⟩
end Go.Proofs.Ytffmlpenohpjlaa
