/- The contract of the law's awake (mapsheetslaw01): it returns true. -/
import Derived.Test.YtffmlpenohpjlaaNumG
namespace Go.Proofs.Ytffmlpenohpjlaa
open Go.RowKit
open Num
set_option linter.unusedVariables false

theorem wf64 {n : Int} (h : (Lit.int .i64 n).wf = true) : I64 n := by
  simp only [Lit.wf, Bool.and_eq_true, decide_eq_true_eq] at h
  have e1 : IntKind.i64.min = -9223372036854775808 := by decide
  have e2 : IntKind.i64.max = 9223372036854775807 := by decide
  rw [e1, e2] at h; exact h
theorem wf16u {n : Int} (h : (Lit.int .u16 n).wf = true) : 0 ≤ n ∧ n ≤ 65535 := by
  simp only [Lit.wf, Bool.and_eq_true, decide_eq_true_eq] at h
  have e1 : IntKind.u16.min = 0 := by decide
  have e2 : IntKind.u16.max = 65535 := by decide
  rw [e1, e2] at h; exact h
theorem sqrt24 {r : Nat} (h1 : r * r ≤ 24) (h2 : 24 < (r + 1) * (r + 1)) : r = 4 := by
  have a : r < 5 := by
    apply Classical.byContradiction; intro hx
    have := Nat.mul_le_mul (show 5 ≤ r by omega) (show 5 ≤ r by omega)
    omega
  have b : 4 ≤ r := by
    apply Classical.byContradiction; intro hx
    have := Nat.mul_le_mul (show r + 1 ≤ 4 by omega) (show r + 1 ≤ 4 by omega)
    omega
  omega
theorem below_dr {w a : World} (h : Below w.heap.size w a) (n : Nat) : Below w.heap.size w (a.drewN n) := h.trans ⟨rfl, rfl, rfl, Nat.le_refl _, fun _ _ => rfl⟩
theorem i64s {n : Int} (h : -1000 ≤ n) (h' : n ≤ 1000) : I64 n := ⟨by omega, by omega⟩
set_option maxRecDepth 100000 in
set_option maxHeartbeats 1000000 in
theorem awake01 (w : World) : Calls Try.prog 17 #[] w fun e w' => e = .returned (.bool true) ∧ Below w.heap.size w w' := by
  go_enter Try.func17, Try.ntmps17
  go_wp2_with fail
  refine (floor_any (-7) 2 _ (i64s (by omega) (by omega))).mono ?_
  rintro e w' ⟨rfl, rfl⟩
  rw [show flq (-7) 2 = -4 by decide, show chk (-7) 2 = 0 by decide]
  go_wp2_with fail
  refine (ceil_any (-7) 2 _ (i64s (by omega) (by omega))).mono ?_
  rintro e w' ⟨rfl, rfl⟩
  rw [show clq (-7) 2 = -3 by decide, show chk (-7) 2 = 0 by decide]
  go_wp2_with fail
  refine (round_any (-5) 2 _ (i64s (by omega) (by omega)) (i64s (by omega) (by omega))).mono ?_
  rintro e w' ⟨rfl, rfl⟩
  rw [show rndq (-5) 2 = -2 by decide, show chk (-5) 2 = 0 by decide]
  go_wp2_with fail
  refine (muldiv_ex _).mono ?_
  rintro e w' ⟨rfl, rfl⟩
  go_wp2_with fail
  refine (make_any 6 (-4) _ (i64s (by omega) (by omega)) (i64s (by omega) (by omega))).mono ?_
  rintro e w1 ⟨rfl, hb1⟩
  rw [show mkN 6 (-4) = -3 by decide +kernel, show mkD 6 (-4) = 2 by decide +kernel, show mkE 6 (-4) = 0 by decide +kernel]
  have F1 := Lib.hid hb1
  clear hb1
  go_wp2_with fail
  refine (floor_any 1 0 _ (i64s (by omega) (by omega))).mono ?_
  rintro e w' ⟨rfl, rfl⟩
  rw [show flq 1 0 = 0 by decide, show chk 1 0 = 21 by decide]
  go_wp2_with fail
  refine (sqrt_ok 24 _ (by omega)).mono ?_
  rintro e w' ⟨r, rfl, hr1, hr2, -, rfl⟩
  obtain rfl := sqrt24 hr1 hr2
  clear hr1 hr2
  go_wp2_with fail
  refine (gcd_any (-12) 18 _ (i64s (by omega) (by omega)) (i64s (by omega) (by omega))).mono ?_
  rintro e w2 ⟨rfl, n2, rfl⟩
  rw [show gcV (-12) 18 = 6 by decide +kernel]
  go_wp2_with fail
  refine (cmp_any 1 2 2 3 _ (i64s (by omega) (by omega)) (i64s (by omega) (by omega)) (i64s (by omega) (by omega)) (i64s (by omega) (by omega))).mono ?_
  rintro e w3 ⟨rfl, hb3⟩
  rw [show cmpF 1 2 2 3 = -1 by decide +kernel]
  have F3 : Hid (Below w.heap.size w w3) := Lib.hid (below_step' (below_dr (below_step' F1.out (below_box' _ _)) n2) hb3)
  clear hb3
  go_wp2
  go_ret
  exact ⟨rfl, F3.out⟩
end Go.Proofs.Ytffmlpenohpjlaa
