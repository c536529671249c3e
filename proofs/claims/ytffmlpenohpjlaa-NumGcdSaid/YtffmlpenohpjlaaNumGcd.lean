/- NumGcd returns true for all ints: the walk. -/
import Derived.Test.YtffmlpenohpjlaaNumH
import Derived.Test.YtffmlpenohpjlaaNumI
namespace Go.Proofs.Ytffmlpenohpjlaa
open Go.RowKit
open Num
set_option linter.unusedVariables false

set_option maxHeartbeats 1000000 in
theorem gcds_any (a b : Int) (w : World) (h1 : I64 a) (h2 : I64 b) : Calls Try.prog 4 #[.int .i64 a, .int .i64 b] w fun e w' => e = .returned (.bool true) ∧ Below w.heap.size w w' := by
  have HC := Lib.hid (gcV_comm b a)
  have hg := gcV_nonneg a b
  have HD := Lib.hid (gcV_dvd a b)
  have H1 := Lib.hid h1
  have H2 := Lib.hid h2
  clear h1 h2
  go_enter Try.func4, Try.ntmps4
  go_wp2_with fail
  refine (gcd_any a b _ H1.out H2.out).mono ?_
  rintro e w' ⟨rfl, n1, rfl⟩
  go_wp2_with fail
  refine (rgcd_any a b _ H1.out H2.out).mono ?_
  rintro e w' ⟨rfl, n2, rfl⟩
  go_wp2_with fail
  refine (gcd_any b a _ H2.out H1.out).mono ?_
  rintro e w' ⟨rfl, n3, rfl⟩
  rw [HC.out]
  go_wp2_with fail
  refine (awake01 _).mono ?_
  rintro e w1 ⟨rfl, hb1⟩
  have F1 : Hid (Below w.heap.size w w1) := Lib.hid (below_step' (below_dr (Below.refl _ _) _) hb1)
  clear hb1
  by_cases hz : gcV a b = 0
  · have z1 : (gcV a b == 0) = true := by simpa using hz
    clear hz
    go_wp2
    go_ret
    exact ⟨rfl, F1.out⟩
  · have z1 : (gcV a b == 0) = false := by simpa using hz
    have z2 : 0 < gcV a b := by omega
    have z3 : gcV a b ≠ 0 := hz
    obtain ⟨d1, d2⟩ := HD.out hz
    clear hz
    go_wp2
    go_ret
    exact ⟨rfl, F1.out⟩
theorem gcds_wf (a b : Int) (w : World) (h1 : (Lit.int .i64 a).wf = true) (h2 : (Lit.int .i64 b).wf = true) : Calls Try.prog 4 #[.int .i64 a, .int .i64 b] w fun e w' => e = .returned (.bool true) ∧ Below w.heap.size w w' :=
  gcds_any a b w (wf64 h1) (wf64 h2)
end Go.Proofs.Ytffmlpenohpjlaa
