/- NumRoots returns true for every int: the walk. -/
import Derived.Test.YtffmlpenohpjlaaNumH
namespace Go.Proofs.Ytffmlpenohpjlaa
open Go.RowKit
open Num
set_option linter.unusedVariables false

set_option maxHeartbeats 400000 in
theorem sqrt_neg (n : Int) (w : World) (h : n < 0) : Calls Try.prog 22 #[.int .i64 n] w fun e w' => e = .returned (.int .i64 0) ∧ w = w' := by
  go_enter Try.func22, Try.ntmps22
  go_wp2
  go_ret
  exact ⟨rfl, rfl⟩
set_option maxHeartbeats 1000000 in
theorem roots_neg (n : Int) (w : World) (h : n < 0) : Calls Try.prog 7 #[.int .i64 n] w fun e w' => e = .returned (.bool true) ∧ Below w.heap.size w w' := by
  go_enter Try.func7, Try.ntmps7
  go_wp2_with fail
  refine (sqrt_neg n _ h).mono ?_
  rintro e w' ⟨rfl, rfl⟩
  go_wp2_with fail
  refine (awake01 _).mono ?_
  rintro e w1 ⟨rfl, hb1⟩
  have F1 := Lib.hid hb1
  clear hb1
  go_wp2
  go_ret
  exact ⟨rfl, F1.out⟩
theorem root_small {r N : Nat} (h1 : r * r ≤ N) (hN : N ≤ 9223372036854775807) : r ≤ 3037000499 := by
  apply Classical.byContradiction; intro hx
  have := Nat.mul_le_mul (show 3037000500 ≤ r by omega) (show 3037000500 ≤ r by omega)
  omega
set_option maxRecDepth 100000 in
set_option maxHeartbeats 1000000 in
theorem roots_pos (N : Nat) (w : World) (hN : N ≤ 9223372036854775807) : Calls Try.prog 7 #[.int .i64 N] w fun e w' => e = .returned (.bool true) ∧ Below w.heap.size w w' := by
  have hN' : (N : Int) ≤ 9223372036854775807 := by omega
  go_enter Try.func7, Try.ntmps7
  go_wp2_with fail
  refine (sqrt_ok N _ hN).mono ?_
  rintro e w' ⟨r, rfl, hr1, hr2, hr3, rfl⟩
  have hs := root_small hr1 hN
  have p1 : (r : Int) * (r : Int) ≤ (N : Int) := by exact_mod_cast hr1
  have p0 : 0 ≤ (r : Int) * (r : Int) := Int.mul_nonneg (by omega) (by omega)
  have p2 : (N : Int) < ((r : Int) + 1) * ((r : Int) + 1) := by exact_mod_cast hr2
  have t1 : decide ((r : Int) < 0) = false := by simp
  have t2 : decide (3037000499 < (r : Int)) = false := by simp; omega
  have t3 : decide ((N : Int) < (r : Int) * (r : Int)) = false := by simp; omega
  have t4 : ((r : Int) * (r : Int)) ≤ 9223372036854775807 := by omega
  clear hr1 hr2
  by_cases hm : r = 3037000499
  · have u1 : ((r : Int) == 3037000499) = true := by simp; omega
    clear hm
    go_wp2_with fail
    refine (awake01 _).mono ?_
    rintro e w1 ⟨rfl, hb1⟩
    have F1 := Lib.hid hb1
    clear hb1
    go_wp2
    go_ret
    exact ⟨rfl, F1.out⟩
  · have u1 : ((r : Int) == 3037000499) = false := by simp; omega
    have u2 : ((r : Int) + 1) * ((r : Int) + 1) ≤ 9223372036854775807 := by
      have h3 : (r : Int) + 1 ≤ 3037000499 := by omega
      have h4 := Int.mul_le_mul h3 h3 (by omega) (by omega)
      have e : (3037000499 : Int) * 3037000499 = 9223372030926249001 := by decide
      rw [e] at h4; omega
    have u3 : 0 ≤ ((r : Int) + 1) * ((r : Int) + 1) := by omega
    clear hm
    obtain ⟨s, es⟩ : ∃ s : Int, (r : Int) + 1 = s := ⟨_, rfl⟩
    rw [es] at u2 u3 p2
    have u4 : decide ((N : Int) < s * s) = true := by simpa using p2
    have u5 : wrap64 (s * s) = s * s := by unfold wrap64; omega
    go_wp2_with fail
    refine (awake01 _).mono ?_
    rintro e w1 ⟨rfl, hb1⟩
    have F1 := Lib.hid hb1
    clear hb1
    go_wp2
    go_ret
    exact ⟨rfl, F1.out⟩
theorem roots_any (n : Int) (w : World) (hn : (Lit.int .i64 n).wf = true) : Calls Try.prog 7 #[.int .i64 n] w fun e w' => e = .returned (.bool true) ∧ Below w.heap.size w w' := by
  obtain ⟨h1, h2⟩ := wf64 hn
  rcases Int.lt_or_le n 0 with h | h
  · exact roots_neg n w h
  · obtain ⟨N, rfl⟩ := Int.eq_ofNat_of_zero_le h
    exact roots_pos N w (by omega)
end Go.Proofs.Ytffmlpenohpjlaa
