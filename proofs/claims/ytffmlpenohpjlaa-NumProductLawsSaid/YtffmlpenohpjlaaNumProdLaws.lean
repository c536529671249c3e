/- NumProductLaws returns true for all ints: the walk. -/
import Derived.Test.YtffmlpenohpjlaaNumH
import Derived.Test.YtffmlpenohpjlaaNumK
namespace Go.Proofs.Ytffmlpenohpjlaa
open Go.RowKit
open Num
set_option linter.unusedVariables false

set_option maxHeartbeats 1000000 in
theorem prodlaws_wf (a b : Int) (w : World) (hw1 : (Lit.int .i64 a).wf = true) (hw2 : (Lit.int .i64 b).wf = true) : Calls Try.prog 6 #[.int .i64 a, .int .i64 b] w fun e w' => e = .returned (.bool true) ∧ Below w.heap.size w w' := by
  have h1 := wf64 hw1
  have h2 := wf64 hw2
  have M1 := Lib.hid (fun v => muldiv_any a 1 b v h1 ⟨by omega, by omega⟩ h2)
  rw [(md_one a b h1).1, (md_one a b h1).2] at M1
  have F1 := Lib.hid (fun v => floor_any a b v h1)
  unfold flq at F1
  by_cases hb : b = 0
  · subst hb
    have M2 := Lib.hid (fun v => muldiv_any a 0 0 v h1 h2 h2)
    rw [(md_zero a 0).1, (md_zero a 0).2] at M2
    have hc : chk a 0 = 21 := rfl
    rw [hc] at M1 F1
    clear h1 h2 hw1 hw2 hc
    go_enter Try.func6, Try.ntmps6
    go_wp2_with fail
    refine (M1.out _).mono ?_
    rintro e w' ⟨rfl, n1, rfl⟩
    go_wp2_with fail
    refine (F1.out _).mono ?_
    rintro e w' ⟨rfl, rfl⟩
    go_wp2_with fail
    refine (M2.out _).mono ?_
    rintro e w' ⟨rfl, n2, rfl⟩
    go_wp2_with fail
    refine (awake01 _).mono ?_
    rintro e w1 ⟨rfl, hb1⟩
    have G1 : Hid (Below w.heap.size w w1) := Lib.hid (below_step' (below_dr (Below.refl _ _) _) hb1)
    clear hb1
    go_wp2
    go_ret
    exact ⟨rfl, G1.out⟩
  · have M2 := Lib.hid (fun v => muldiv_any a b b v h1 h2 h2)
    rw [(md_same a b h1 hb).1, (md_same a b h1 hb).2] at M2
    have hbe : (b == 0) = false := by simpa using hb
    generalize (if chk a b = 0 then fl a b else 0) = p at *
    generalize chk a b = r at *
    clear h1 h2 hw1 hw2
    go_enter Try.func6, Try.ntmps6
    go_wp2_with fail
    refine (M1.out _).mono ?_
    rintro e w' ⟨rfl, n1, rfl⟩
    go_wp2_with fail
    refine (F1.out _).mono ?_
    rintro e w' ⟨rfl, rfl⟩
    go_wp2_with fail
    refine (M2.out _).mono ?_
    rintro e w' ⟨rfl, n2, rfl⟩
    go_wp2_with fail
    refine (awake01 _).mono ?_
    rintro e w1 ⟨rfl, hb1⟩
    have G1 : Hid (Below w.heap.size w w1) := Lib.hid (below_step' (below_dr (Below.refl _ _) _) hb1)
    clear hb1
    go_wp2
    go_ret
    exact ⟨rfl, G1.out⟩
end Go.Proofs.Ytffmlpenohpjlaa
