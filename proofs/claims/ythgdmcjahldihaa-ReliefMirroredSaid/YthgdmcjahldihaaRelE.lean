/- The contracts of the reference's Slope and Shade (mapsheetsref45). -/
import Derived.Test.YthgdmcjahldihaaRelD
namespace Go.Proofs.Ythgdmcjahldihaa
open Go.RowKit
open Num
set_option linter.unusedVariables false

set_option maxHeartbeats 1000000 in
theorem rSlope_err (x y W H S : Int) (A : Option Addr) (n c : Nat) (z : Nat → Int) (col row : Int) (w : World) (hn : n ≤ 4200) (hA : Ints w w.heap.size A n z) (h : Ter.chk x y W H S n z ≠ 0) :
    Calls Try.prog 17 #[hgt x y W H S A n c, .int .i64 col, .int .i64 row] w fun e w' => e = .returned (.tuple #[.int .i64 0, .int .i64 0, .int .i64 (Ter.chk x y W H S n z)]) ∧ Below w.heap.size w w' := by
  have hb : (Ter.chk x y W H S n z != 0) = true := by simpa using h
  unfold hgt
  go_enter Try.func17, Try.ntmps17
  go_wp2_with fail
  refine (rcheck_any _ _ _ _ _ _ _ _ z _ hn (hA.later (below_box _ _))).mono ?_
  rintro e w1 ⟨rfl, hb1⟩
  have hfin := Lib.hid (below_step (below_box w _) hb1)
  clear hb1
  go_wp2
  go_ret3
  exact ⟨rfl, hfin.out⟩
set_option maxHeartbeats 1000000 in
theorem rSlope_out (x y W H S : Int) (A : Option Addr) (n c : Nat) (z : Nat → Int) (col row : Int) (w : World) (hn : n ≤ 4200) (hA : Ints w w.heap.size A n z) (h : Ter.chk x y W H S n z = 0) (h' : ¬ Ter.In2 W H col row) :
    Calls Try.prog 17 #[hgt x y W H S A n c, .int .i64 col, .int .i64 row] w fun e w' => e = .returned (.tuple #[.int .i64 0, .int .i64 0, .int .i64 2]) ∧ Below w.heap.size w w' := by
  unfold hgt
  have hg := (Ter.chk_zero h).1
  obtain ⟨-, -, ⟨g5, g6⟩, ⟨g7, g8⟩, -, -, -⟩ := hg
  have HC := Lib.hid h
  have HI := Lib.hid h'
  clear h h'
  go_enter Try.func17, Try.ntmps17
  go_wp2_with fail
  refine (rcheck_any _ _ _ _ _ _ _ _ z _ hn (hA.later (below_box _ _))).mono ?_
  rintro e w1 ⟨rfl, hb1⟩
  rw [HC.out]
  have hfin := Lib.hid (below_step (below_box w _) hb1)
  obtain ⟨hcl, hfz⟩ := bcell hb1
  clear hb1
  go_wp2_with fail
  all_goals first
    | (exfalso; exact HI.out ⟨⟨by omega, by omega⟩, by omega, by omega⟩)
    | (go_ret3; exact ⟨rfl, hfin.out⟩)
set_option maxHeartbeats 1000000 in
theorem rSlope_in (x y W H S : Int) (A : Option Addr) (n c : Nat) (z : Nat → Int) (col row : Int) (w : World) (hn : n ≤ 4200) (hA : Ints w w.heap.size A n z) (h : Ter.chk x y W H S n z = 0) (h' : Ter.In2 W H col row) :
    Calls Try.prog 17 #[hgt x y W H S A n c, .int .i64 col, .int .i64 row] w fun e w' => e = .returned (.tuple #[.int .i64 (Ter.dxF z W.toNat (row * W + col).toNat), .int .i64 (Ter.dyF z W.toNat (row * W + col).toNat), .int .i64 0]) ∧ Below w.heap.size w w' := by
  have hz := (Ter.chk_zero h).2.2
  obtain ⟨-, -, ⟨g5, g6⟩, ⟨g7, g8⟩, -, -, -⟩ := (Ter.chk_zero h).1
  obtain ⟨m, k, r, i, hm, -, -, hi, -, hin, -⟩ := in_facts h h'
  have HC := Lib.hid h
  obtain ⟨⟨c1, c2⟩, r1, r2⟩ := h'
  have hmm : W.toNat = m := by omega
  have f3 : 0 ≤ row * W := Int.mul_nonneg r1 (by omega)
  have n1 := Lib.hid (show (row * W + (col + 1)).toNat = i + 1 by omega)
  have n2 := Lib.hid (show ((row + 1) * W + col).toNat = i + m by rw [Int.add_mul, Int.one_mul]; omega)
  have n3 := Lib.hid (show ((row + 1) * W + (col + 1)).toNat = i + m + 1 by rw [Int.add_mul, Int.one_mul]; omega)
  have n0 := Lib.hid hi
  obtain ⟨z0, z0'⟩ := hz i (by omega)
  obtain ⟨z1, z1'⟩ := hz (i + 1) (by omega)
  obtain ⟨z2, z2'⟩ := hz (i + m) (by omega)
  obtain ⟨z3, z3'⟩ := hz (i + m + 1) (by omega)
  rw [hi, hmm]
  clear h hz hi hmm hm
  unfold Ter.dxF Ter.dyF hgt
  go_enter Try.func17, Try.ntmps17
  go_wp2_with fail
  refine (rcheck_any _ _ _ _ _ _ _ _ z _ hn (hA.later (below_box _ _))).mono ?_
  rintro e w1 ⟨rfl, hb1⟩
  rw [HC.out]
  have hf1 := below_step (below_box w _) hb1
  have A1 := Lib.hid (hA.later hf1)
  have F1 := Lib.hid hf1
  have B1 := Lib.hid hb1
  obtain ⟨hcl, hfz⟩ := bcell hb1
  have hs1 := hb1.size
  simp at hs1
  clear hf1 hb1
  go_wp2_with fail
  refine (rValue_in _ _ _ _ _ _ _ _ z _ _ _ hn A1.out HC.out ⟨⟨by omega, by omega⟩, by omega, by omega⟩).mono ?_
  rintro e w2 ⟨rfl, hb2⟩
  rw [n0.out]
  have A2 := Lib.hid (A1.out.later hb2)
  have F2 := Lib.hid (below_step F1.out hb2)
  have B2 := Lib.hid (below_step B1.out hb2)
  clear hcl hfz hb2
  obtain ⟨hcl, hfz⟩ := bcell B2.out
  go_wp2_with fail
  refine (rValue_in _ _ _ _ _ _ _ _ z _ _ _ hn A2.out HC.out ⟨⟨by omega, by omega⟩, by omega, by omega⟩).mono ?_
  rintro e w3 ⟨rfl, hb2⟩
  rw [n1.out]
  have A3 := Lib.hid (A2.out.later hb2)
  have F3 := Lib.hid (below_step F2.out hb2)
  have B3 := Lib.hid (below_step B2.out hb2)
  clear hcl hfz hb2
  obtain ⟨hcl, hfz⟩ := bcell B3.out
  go_wp2_with fail
  refine (rValue_in _ _ _ _ _ _ _ _ z _ _ _ hn A3.out HC.out ⟨⟨by omega, by omega⟩, by omega, by omega⟩).mono ?_
  rintro e w4 ⟨rfl, hb2⟩
  rw [n2.out]
  have A4 := Lib.hid (A3.out.later hb2)
  have F4 := Lib.hid (below_step F3.out hb2)
  have B4 := Lib.hid (below_step B3.out hb2)
  clear hcl hfz hb2
  obtain ⟨hcl, hfz⟩ := bcell B4.out
  go_wp2_with fail
  refine (rValue_in _ _ _ _ _ _ _ _ z _ _ _ hn A4.out HC.out ⟨⟨by omega, by omega⟩, by omega, by omega⟩).mono ?_
  rintro e w5 ⟨rfl, hb2⟩
  rw [n3.out]
  have F5 := Lib.hid (below_step F4.out hb2)
  clear hcl hfz hb2
  go_wp2
  go_ret3
  exact ⟨rfl, F5.out⟩
theorem rSlope_any (x y W H S : Int) (A : Option Addr) (n c : Nat) (z : Nat → Int) (col row : Int) (w : World) (hn : n ≤ 4200) (hA : Ints w w.heap.size A n z) :
    Calls Try.prog 17 #[hgt x y W H S A n c, .int .i64 col, .int .i64 row] w fun e w' => e = .returned (.tuple #[.int .i64 (Ter.slX x y W H S n z col row), .int .i64 (Ter.slY x y W H S n z col row), .int .i64 (Ter.slE x y W H S n z col row)]) ∧ Below w.heap.size w w' := by
  by_cases h : Ter.chk x y W H S n z = 0
  · by_cases h' : Ter.In2 W H col row
    · obtain ⟨e1, e2, e3⟩ := Ter.sl_in h h'
      rw [e1, e2, e3]; exact rSlope_in x y W H S A n c z col row w hn hA h h'
    · obtain ⟨e1, e2, e3⟩ := Ter.sl_out h h'
      rw [e1, e2, e3]; exact rSlope_out x y W H S A n c z col row w hn hA h h'
  · obtain ⟨e1, e2, e3⟩ := Ter.sl_err (col := col) (row := row) h
    rw [e1, e2, e3]; exact rSlope_err x y W H S A n c z col row w hn hA h

set_option maxHeartbeats 1000000 in
theorem rShade_err (x y W H S : Int) (A : Option Addr) (n c : Nat) (z : Nat → Int) (col row : Int) (w : World) (hn : n ≤ 4200) (hA : Ints w w.heap.size A n z) (h : Ter.slE x y W H S n z col row ≠ 0) :
    Calls Try.prog 19 #[hgt x y W H S A n c, .int .i64 col, .int .i64 row] w fun e w' => e = .returned (.tuple #[.int .i64 0, .int .i64 (Ter.slE x y W H S n z col row)]) ∧ Below w.heap.size w w' := by
  have hb : (Ter.slE x y W H S n z col row != 0) = true := by simpa using h
  have HS := Lib.hid (rSlope_any x y W H S A n c z col row)
  unfold hgt at HS
  unfold hgt
  go_enter Try.func19, Try.ntmps19
  go_wp2_with fail
  refine (HS.out _ hn (hA.later (below_box _ _))).mono ?_
  rintro e w1 ⟨rfl, hb1⟩
  have hfin := Lib.hid (below_step (below_box w _) hb1)
  clear hb1
  go_wp2
  go_ret2
  exact ⟨rfl, hfin.out⟩
theorem rndq_small {a b : Int} (hb : 0 < b) : rndq a b = rnd a b := by unfold rndq; rw [if_pos]; exact chk_zero (by omega) (by omega)
set_option maxHeartbeats 1000000 in
theorem rShade_in (x y W H S : Int) (A : Option Addr) (n c : Nat) (z : Nat → Int) (col row : Int) (w : World) (hn : n ≤ 4200) (hA : Ints w w.heap.size A n z) (h : Ter.slE x y W H S n z col row = 0) :
    Calls Try.prog 19 #[hgt x y W H S A n c, .int .i64 col, .int .i64 row] w fun e w' => e = .returned (.tuple #[.int .i64 (Ter.shF (Ter.slX x y W H S n z col row) (Ter.slY x y W H S n z col row) S), .int .i64 0]) ∧ Below w.heap.size w w' := by
  have HS := Lib.hid (rSlope_any x y W H S A n c z col row)
  obtain ⟨⟨s1, s2⟩, ⟨x1, x2⟩, y1, y2⟩ := sl_range h
  rw [h] at HS
  generalize Ter.slX x y W H S n z col row = dx at *
  generalize Ter.slY x y W H S n z col row = dy at *
  clear h
  have hm1 : 0 ≤ max dx (-dx) := by omega
  have hm2 : max dx (-dx) ≤ 40000 := by omega
  have hm3 : 0 ≤ max dy (-dy) := by omega
  have hm4 : max dy (-dy) ≤ 40000 := by omega
  have hq := Lib.hid (Ter.rnd_small (a := 50 * (dx - dy)) (b := max dx (-dx) + max dy (-dy) + 4 * S) (by omega) (by omega) (by omega))
  have hqq := Lib.hid (rndq_small (a := 50 * (dx - dy)) (b := max dx (-dx) + max dy (-dy) + 4 * S) (by omega))
  have hx := Lib.hid (fun w => rabs_any dx w x1 x2)
  have hy := Lib.hid (fun w => rabs_any dy w y1 y2)
  have hr := Lib.hid (fun w => rround_any (50 * (dx - dy)) (max dx (-dx) + max dy (-dy) + 4 * S) w ⟨by omega, by omega⟩ ⟨by omega, by omega⟩)
  have hck := Lib.hid (show chk (50 * (dx - dy)) (max dx (-dx) + max dy (-dy) + 4 * S) = 0 from chk_zero (by omega) (by omega))
  unfold Ter.shF
  unfold hgt at HS
  unfold hgt
  generalize max dx (-dx) = ax at *
  generalize max dy (-dy) = ay at *
  have u1 : IntKind.i64.wrap (dx - dy) = dx - dy := IntWalk.i64_in _ (by omega)
  have u2 : IntKind.i64.wrap (50 * (dx - dy)) = 50 * (dx - dy) := IntWalk.i64_in _ (by omega)
  have u3 : IntKind.i64.wrap (ax + ay) = ax + ay := IntWalk.i64_in _ (by omega)
  have u4 : IntKind.i64.wrap (4 * S) = 4 * S := IntWalk.i64_in _ (by omega)
  have u5 : IntKind.i64.wrap (ax + ay + 4 * S) = ax + ay + 4 * S := IntWalk.i64_in _ (by omega)
  go_enter Try.func19, Try.ntmps19
  go_wp2_with fail
  refine (HS.out _ hn (hA.later (below_box _ _))).mono ?_
  rintro e w1 ⟨rfl, hb1⟩
  have hfin := Lib.hid (below_step (below_box w _) hb1)
  obtain ⟨hcl, hfz⟩ := bcell hb1
  clear hb1
  go_wp2_with fail
  go_quiet (first | (go_at_call 41; first | exact Calls.quiet_of_same (hx.out _) | exact Calls.quiet_of_same (hy.out _)) | (go_at_call 40; exact Calls.quiet_of (hr.out _)))
  clear u1 u2 u3 u4 u5
  rw [hqq.out]
  obtain ⟨q1, q2⟩ := hq.out
  clear hq hqq
  go_wp2
  go_ret2
  exact ⟨rfl, below_drew hfin.out _⟩
theorem rShade_any (x y W H S : Int) (A : Option Addr) (n c : Nat) (z : Nat → Int) (col row : Int) (w : World) (hn : n ≤ 4200) (hA : Ints w w.heap.size A n z) :
    Calls Try.prog 19 #[hgt x y W H S A n c, .int .i64 col, .int .i64 row] w fun e w' => e = .returned (.tuple #[.int .i64 (Ter.shV x y W H S n z col row), .int .i64 (Ter.slE x y W H S n z col row)]) ∧ Below w.heap.size w w' := by
  unfold Ter.shV
  by_cases h : Ter.slE x y W H S n z col row = 0
  · rw [if_pos h]; have := rShade_in x y W H S A n c z col row w hn hA h; rwa [h]
  · rw [if_neg h]; exact rShade_err x y W H S A n c z col row w hn hA h
end Go.Proofs.Ythgdmcjahldihaa
