/- NumFractions returns true for all ints: the walk. -/
import Derived.Test.YtffmlpenohpjlaaNumH
import Derived.Test.YtffmlpenohpjlaaNumL
import Derived.Test.YtffmlpenohpjlaaBox
namespace Go.Proofs.Ytffmlpenohpjlaa
open Go.RowKit
open Num
set_option linter.unusedVariables false

set_option maxHeartbeats 1000000 in
theorem fracs_err (a b k : Int) (w : World) (h1 : I64 a) (h2 : I64 b) (hE : mkE a b ≠ 0) : Calls Try.prog 8 #[.int .i64 a, .int .i64 b, .int .u16 k] w fun e w' => e = .returned (.bool true) ∧ Below w.heap.size w w' := by
  have M := Lib.hid (fun v => make_any a b v h1 h2)
  have R := Lib.hid (fun v => rmake_any a b v h1 h2)
  rw [(mk_zero hE).1, (mk_zero hE).2] at M R
  have he : (mkE a b != 0) = true := by simpa using hE
  generalize mkE a b = E at *
  clear h1 h2 hE
  go_enter Try.func8, Try.ntmps8
  go_wp2_with fail
  refine (M.out _).mono ?_
  rintro e w1 ⟨rfl, hb1⟩
  have F1 := Lib.hid hb1
  clear hb1
  go_wp2_with fail
  refine (R.out _).mono ?_
  rintro e w2 ⟨rfl, hb2⟩
  have F2 := Lib.hid (below_on (below_on F1.out (below_al _ _)) hb2)
  obtain ⟨c0, c1⟩ := box2 hb2
  have hs2 := cell_lt c0
  clear hb2
  go_wp2_with fail
  refine (awake01 _).mono ?_
  rintro e w3 ⟨rfl, hb3⟩
  have F3 := Lib.hid (below_on (below_on F2.out (below_al _ _)) hb3)
  have d0 := cell_on (cell_al c0 _) hb3
  have d1 := cell_on (cell_al c1 _) hb3
  clear hb3 c0 c1
  go_wp2
  go_ret
  exact ⟨rfl, F3.out⟩
set_option maxHeartbeats 1000000 in
theorem fracs_big (a b k : Int) (w : World) (h1 : I64 a) (h2 : I64 b) (hE : mkE a b = 0) (hB : 1099511627776 < mkN a b ∨ mkN a b < -1099511627776 ∨ 1099511627776 < mkD a b) :
    Calls Try.prog 8 #[.int .i64 a, .int .i64 b, .int .u16 k] w fun e w' => e = .returned (.bool true) ∧ Below w.heap.size w w' := by
  have M := Lib.hid (fun v => make_any a b v h1 h2)
  have R := Lib.hid (fun v => rmake_any a b v h1 h2)
  rw [hE] at M R
  have V := Lib.hid (mk_vld hE)
  have RG := Lib.hid (mk_range hE h1 h2)
  generalize mkN a b = N at *
  generalize mkD a b = D at *
  have RV := Lib.hid (fun v => rvalid_any N D v RG.out.1 RG.out.2)
  rw [V.out] at RV
  clear h1 h2 hE
  go_enter Try.func8, Try.ntmps8
  go_wp2_with fail
  refine (M.out _).mono ?_
  rintro e w1 ⟨rfl, hb1⟩
  have F1 := Lib.hid hb1
  clear hb1
  go_wp2_with fail
  refine (R.out _).mono ?_
  rintro e w2 ⟨rfl, hb2⟩
  have F2 := Lib.hid (below_on (below_on F1.out (below_al _ _)) hb2)
  obtain ⟨c0, c1⟩ := box2 hb2
  have hs2 := cell_lt c0
  clear hb2
  by_cases g1 : 1099511627776 < N
  · clear hB
    go_wp2_with fail
    refine (awake01 _).mono ?_
    rintro e w3 ⟨rfl, hb3⟩
    have F3 := Lib.hid (below_on (below_on F2.out (below_al _ _)) hb3)
    have d0 := cell_on (cell_al c0 _) hb3
    have d1 := cell_on (cell_al c1 _) hb3
    clear hb3 c0 c1
    go_wp2_with fail
    refine (RV.out _).mono ?_
    rintro e w4 ⟨rfl, hb4⟩
    have F4 := Lib.hid (below_on F3.out hb4)
    clear hb4
    go_wp2
    go_ret
    exact ⟨rfl, F4.out⟩
  · have g1i : decide (1099511627776 < N) = false := by simpa using g1
    by_cases g2 : N < -1099511627776
    · clear hB
      go_wp2_with fail
      refine (awake01 _).mono ?_
      rintro e w3 ⟨rfl, hb3⟩
      have F3 := Lib.hid (below_on (below_on F2.out (below_al _ _)) hb3)
      have d0 := cell_on (cell_al c0 _) hb3
      have d1 := cell_on (cell_al c1 _) hb3
      clear hb3 c0 c1
      go_wp2_with fail
      refine (RV.out _).mono ?_
      rintro e w4 ⟨rfl, hb4⟩
      have F4 := Lib.hid (below_on F3.out hb4)
      clear hb4
      go_wp2
      go_ret
      exact ⟨rfl, F4.out⟩
    · have g2i : decide (N < -1099511627776) = false := by simpa using g2
      have g3 : 1099511627776 < D := by omega
      clear hB
      go_wp2_with fail
      refine (awake01 _).mono ?_
      rintro e w3 ⟨rfl, hb3⟩
      have F3 := Lib.hid (below_on (below_on F2.out (below_al _ _)) hb3)
      have d0 := cell_on (cell_al c0 _) hb3
      have d1 := cell_on (cell_al c1 _) hb3
      clear hb3 c0 c1
      go_wp2_with fail
      refine (RV.out _).mono ?_
      rintro e w4 ⟨rfl, hb4⟩
      have F4 := Lib.hid (below_on F3.out hb4)
      clear hb4
      go_wp2
      go_ret
      exact ⟨rfl, F4.out⟩
theorem u16_mod {k : Int} (h0 : 0 ≤ k) (h1 : k ≤ 65535) : wrap64 (1 + k % 1000) = 1 + k % 1000 ∧ k.tmod 1000 = k % 1000 := by
  refine ⟨by unfold wrap64; omega, Int.tmod_eq_emod_of_nonneg h0⟩
set_option maxHeartbeats 1000000 in
theorem fracs_small (a b k : Int) (w : World) (h1 : I64 a) (h2 : I64 b) (k0 : 0 ≤ k) (k1 : k ≤ 65535) (hE : mkE a b = 0) (n1 : -1099511627776 ≤ mkN a b) (n2 : mkN a b ≤ 1099511627776) (dd2 : mkD a b ≤ 1099511627776) :
    Calls Try.prog 8 #[.int .i64 a, .int .i64 b, .int .u16 k] w fun e w' => e = .returned (.bool true) ∧ Below w.heap.size w w' := by
  have M := Lib.hid (fun v => make_any a b v h1 h2)
  have R := Lib.hid (fun v => rmake_any a b v h1 h2)
  rw [hE] at M R
  have V := Lib.hid (mk_vld hE)
  have RG := Lib.hid (mk_range hE h1 h2)
  have HP := Lib.hid (vld_pos V.out)
  generalize mkN a b = N at *
  generalize mkD a b = D at *
  have RV := Lib.hid (fun v => rvalid_any N D v RG.out.1 RG.out.2)
  rw [V.out] at RV
  obtain ⟨m, hm⟩ : ∃ m, 1 + k % 1000 = m := ⟨_, rfl⟩
  have m1 : 1 ≤ m := by omega
  have m2 : m ≤ 1000 := by omega
  have SN := scale_in m1 m2 n1 n2
  have SD := scale_in m1 m2 (show -1099511627776 ≤ D by have := HP.out; omega) dd2
  have MS := Lib.hid (fun v => make_any (-m * N) (-m * D) v ⟨by omega, by omega⟩ ⟨by omega, by omega⟩)
  obtain ⟨s1, s2, s3⟩ := mk_scaled V.out m1 m2 n1 n2 dd2
  rw [s1, s2, s3] at MS
  have t1 := (u16_mod k0 k1).1
  have t2 := (u16_mod k0 k1).2
  rw [hm] at t1
  have g1i : decide (1099511627776 < N) = false := by simp; omega
  have g2i : decide (N < -1099511627776) = false := by simp; omega
  have g3i : decide (1099511627776 < D) = false := by simp; omega
  clear h1 h2 hE s1 s2 s3
  go_enter Try.func8, Try.ntmps8
  go_wp2_with fail
  refine (M.out _).mono ?_
  rintro e w1 ⟨rfl, hb1⟩
  have F1 := Lib.hid hb1
  clear hb1
  go_wp2_with fail
  refine (R.out _).mono ?_
  rintro e w2 ⟨rfl, hb2⟩
  have F2 := Lib.hid (below_on (below_on F1.out (below_al _ _)) hb2)
  obtain ⟨c0, c1⟩ := box2 hb2
  have hs2 := cell_lt c0
  clear hb2
  go_wp2_with fail
  refine (MS.out _).mono ?_
  rintro e w3 ⟨rfl, hb3⟩
  have F3 := Lib.hid (below_on (below_on F2.out (below_al _ _)) hb3)
  have d0 := cell_on (cell_al c0 _) hb3
  have d1 := cell_on (cell_al c1 _) hb3
  have hs3 := cell_lt d0
  clear hb3 c0 c1 SN SD
  go_wp2_with fail
  refine (awake01 _).mono ?_
  rintro e w4 ⟨rfl, hb4⟩
  have F4 := Lib.hid (below_on (below_on F3.out (below_al _ _)) hb4)
  have c0 := cell_on (cell_al d0 _) hb4
  have c1 := cell_on (cell_al d1 _) hb4
  obtain ⟨x0, x1⟩ := box2 hb4
  clear hb4 d0 d1 hs2 hs3
  go_wp2_with fail
  refine (RV.out _).mono ?_
  rintro e w5 ⟨rfl, hb5⟩
  have F5 := Lib.hid (below_on F4.out hb5)
  have d0 := cell_on c0 hb5
  have d1 := cell_on c1 hb5
  have y0 := cell_on x0 hb5
  have y1 := cell_on x1 hb5
  clear hb5 c0 c1 x0 x1
  go_wp2
  go_ret
  exact ⟨rfl, F5.out⟩
theorem fracs_wf (a b k : Int) (w : World) (h1 : (Lit.int .i64 a).wf = true) (h2 : (Lit.int .i64 b).wf = true) (h3 : (Lit.int .u16 k).wf = true) :
    Calls Try.prog 8 #[.int .i64 a, .int .i64 b, .int .u16 k] w fun e w' => e = .returned (.bool true) ∧ Below w.heap.size w w' := by
  by_cases hE : mkE a b = 0
  · by_cases hB : 1099511627776 < mkN a b ∨ mkN a b < -1099511627776 ∨ 1099511627776 < mkD a b
    · exact fracs_big a b k w (wf64 h1) (wf64 h2) hE hB
    · obtain ⟨k0, k1⟩ := wf16u h3
      exact fracs_small a b k w (wf64 h1) (wf64 h2) k0 k1 hE (by omega) (by omega) (by omega)
  · exact fracs_err a b k w (wf64 h1) (wf64 h2) hE
end Go.Proofs.Ytffmlpenohpjlaa
