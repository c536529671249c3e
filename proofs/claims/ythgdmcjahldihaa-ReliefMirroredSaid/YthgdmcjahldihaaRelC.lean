/- The contracts of relief.Slope and relief.Shade. -/
import Derived.Test.YthgdmcjahldihaaTerB
import Derived.Test.YthgdmcjahldihaaRelA
import Derived.Test.YthgdmcjahldihaaRelB
namespace Go.Proofs.Ythgdmcjahldihaa
open Go.RowKit
open Num
set_option linter.unusedVariables false

theorem ret_iii {a b c a' b' c' : Int} (h : a = a') (h' : b = b') (h'' : c = c') : Ending.returned (.tuple #[.int .i64 a, .int .i64 b, .int .i64 c]) = .returned (.tuple #[.int .i64 a', .int .i64 b', .int .i64 c']) := by rw [h, h', h'']

/-- what the numbers of a cell of a valid grid are -/
theorem in_facts {x y W H S : Int} {n : Nat} {z : Nat → Int} {col row : Int} (h : Ter.chk x y W H S n z = 0) (h' : Ter.In2 W H col row) :
    ∃ m k r i : Nat, W = m ∧ col = k ∧ row = r ∧ (row * W + col).toNat = i ∧ (r : Int) * m + k = i ∧ i + m + 1 < n ∧ m ≤ 64 ∧ k ≤ 64 ∧ (r : Int) * m ≤ 4096 ∧ 0 ≤ (r : Int) * m := by
  obtain ⟨⟨-, -, ⟨g5, g6⟩, ⟨g7, g8⟩, -, -, -⟩, hn, hz⟩ := Ter.chk_zero h
  obtain ⟨⟨c1, c2⟩, r1, r2⟩ := h'
  obtain ⟨m, rfl⟩ := Int.eq_ofNat_of_zero_le (show 0 ≤ W by omega)
  obtain ⟨q, rfl⟩ := Int.eq_ofNat_of_zero_le (show 0 ≤ H by omega)
  obtain ⟨k, rfl⟩ := Int.eq_ofNat_of_zero_le c1
  obtain ⟨r, rfl⟩ := Int.eq_ofNat_of_zero_le r1
  have hn' : n = m * q := by exact_mod_cast hn
  have hc := Ter.corner hn' (k := k) (r := r) (by omega) (by omega)
  have hr := Ter.mul_bound (a := r) (b := m) (A := 64) (B := 64) (by omega) (by omega) (by omega) (by omega)
  refine ⟨m, k, r, r * m + k, rfl, rfl, rfl, ?_, by push_cast; rfl, hc, by omega, by omega, by omega, hr.1⟩
  omega

set_option maxHeartbeats 1000000 in
theorem Slope_err (x y W H S : Int) (A : Option Addr) (n c : Nat) (z : Nat → Int) (col row : Int) (w : World) (hn : n ≤ 4200) (hA : Ints w w.heap.size A n z) (h : Ter.chk x y W H S n z ≠ 0) :
    Calls Try.prog 16 #[hgt x y W H S A n c, .int .i64 col, .int .i64 row] w fun e w' => e = .returned (.tuple #[.int .i64 0, .int .i64 0, .int .i64 (Ter.chk x y W H S n z)]) ∧ Below w.heap.size w w' := by
  have hb : (Ter.chk x y W H S n z != 0) = true := by simpa using h
  unfold hgt
  go_enter Try.func16, Try.ntmps16
  go_wp2_with fail
  refine (tcheck_any _ _ _ _ _ _ _ _ z _ hn (hA.later (below_box _ _))).mono ?_
  rintro e w1 ⟨rfl, hb1⟩
  have hfin := Lib.hid (below_step (below_box w _) hb1)
  clear hb1
  go_wp2
  go_ret3
  exact ⟨rfl, hfin.out⟩
set_option maxHeartbeats 1000000 in
theorem Slope_out (x y W H S : Int) (A : Option Addr) (n c : Nat) (z : Nat → Int) (col row : Int) (w : World) (hn : n ≤ 4200) (hA : Ints w w.heap.size A n z) (h : Ter.chk x y W H S n z = 0) (h' : ¬ Ter.In2 W H col row) :
    Calls Try.prog 16 #[hgt x y W H S A n c, .int .i64 col, .int .i64 row] w fun e w' => e = .returned (.tuple #[.int .i64 0, .int .i64 0, .int .i64 2]) ∧ Below w.heap.size w w' := by
  unfold hgt
  have hg := (Ter.chk_zero h).1
  obtain ⟨-, -, ⟨g5, g6⟩, ⟨g7, g8⟩, -, -, -⟩ := hg
  have HC := Lib.hid h
  have HI := Lib.hid h'
  clear h h'
  go_enter Try.func16, Try.ntmps16
  go_wp2_with fail
  refine (tcheck_any _ _ _ _ _ _ _ _ z _ hn (hA.later (below_box _ _))).mono ?_
  rintro e w1 ⟨rfl, hb1⟩
  rw [HC.out]
  have hfin := Lib.hid (below_step (below_box w _) hb1)
  obtain ⟨hcl, hfz⟩ := bcell hb1
  clear hb1
  go_wp2_with fail
  all_goals first
    | (exfalso; exact HI.out ⟨⟨by omega, by omega⟩, by omega, by omega⟩)
    | (go_ret3; exact ⟨rfl, hfin.out⟩)
set_option maxHeartbeats 1000000 in
theorem Slope_in (x y W H S : Int) (A : Option Addr) (n c : Nat) (z : Nat → Int) (col row : Int) (w : World) (hn : n ≤ 4200) (hA : Ints w w.heap.size A n z) (h : Ter.chk x y W H S n z = 0) (h' : Ter.In2 W H col row) :
    Calls Try.prog 16 #[hgt x y W H S A n c, .int .i64 col, .int .i64 row] w fun e w' => e = .returned (.tuple #[.int .i64 (Ter.dxF z W.toNat (row * W + col).toNat), .int .i64 (Ter.dyF z W.toNat (row * W + col).toNat), .int .i64 0]) ∧ Below w.heap.size w w' := by
  have hz := Lib.hid (Ter.chk_zero h).2.2
  obtain ⟨-, -, ⟨g5, g6⟩, ⟨g7, g8⟩, -, -, -⟩ := (Ter.chk_zero h).1
  have HC := Lib.hid h
  obtain ⟨m, k, r, i, rfl, rfl, rfl, hi, hi', hin, f1, f2, f3, f4⟩ := in_facts h h'
  obtain ⟨⟨c1, c2⟩, r1, r2⟩ := h'
  rw [hi]
  obtain ⟨b, off, rfl, hb, hcell⟩ := hA (by omega)
  have HA : Ints w w.heap.size (some ⟨b, off, none⟩) n z := fun _ => ⟨b, off, rfl, hb, hcell⟩
  have HX := Lib.hid hcell
  have HI := Lib.hid hi'
  clear h hcell hA hi hi'
  have hmm : ((m : Int)).toNat = m := rfl
  unfold hgt
  rw [hmm]
  clear hmm
  go_enter Try.func16, Try.ntmps16
  go_wp2_with fail
  refine (tcheck_any _ _ _ _ _ _ _ _ z _ hn (HA.later (below_box _ _))).mono ?_
  rintro e w1 ⟨rfl, hb1⟩
  rw [HC.out]
  have hb0 := Lib.hid (below_step (below_box w _) hb1)
  obtain ⟨hcl, hfz⟩ := bcell hb1
  go_wp2_with fail
  refine (slope_any _ _ _ _ b off n c m r k i z _ (by have := hb0.out.size; omega) f1 hn HI.out hin f3 f4 f2 (fun j hj => cell_in hb0.out (HX.out j hj) hb) hz.out).mono ?_
  rintro e w2 ⟨rfl, hb2⟩
  have hfin := Lib.hid (below_step hb0.out hb2)
  clear hb1 hb2 hcl hfz
  go_wp2
  go_ret3
  exact ⟨rfl, hfin.out⟩

theorem Slope_any (x y W H S : Int) (A : Option Addr) (n c : Nat) (z : Nat → Int) (col row : Int) (w : World) (hn : n ≤ 4200) (hA : Ints w w.heap.size A n z) :
    Calls Try.prog 16 #[hgt x y W H S A n c, .int .i64 col, .int .i64 row] w fun e w' => e = .returned (.tuple #[.int .i64 (Ter.slX x y W H S n z col row), .int .i64 (Ter.slY x y W H S n z col row), .int .i64 (Ter.slE x y W H S n z col row)]) ∧ Below w.heap.size w w' := by
  by_cases h : Ter.chk x y W H S n z = 0
  · by_cases h' : Ter.In2 W H col row
    · obtain ⟨e1, e2, e3⟩ := Ter.sl_in h h'
      rw [e1, e2, e3]; exact Slope_in x y W H S A n c z col row w hn hA h h'
    · obtain ⟨e1, e2, e3⟩ := Ter.sl_out h h'
      rw [e1, e2, e3]; exact Slope_out x y W H S A n c z col row w hn hA h h'
  · obtain ⟨e1, e2, e3⟩ := Ter.sl_err (col := col) (row := row) h
    rw [e1, e2, e3]; exact Slope_err x y W H S A n c z col row w hn hA h

/-- the step and the slopes of a cell are small -/
theorem sl_range {x y W H S : Int} {n : Nat} {z : Nat → Int} {col row : Int} (h : Ter.slE x y W H S n z col row = 0) :
    (1 ≤ S ∧ S ≤ 1048576) ∧ (-40000 ≤ Ter.slX x y W H S n z col row ∧ Ter.slX x y W H S n z col row ≤ 40000) ∧ (-40000 ≤ Ter.slY x y W H S n z col row ∧ Ter.slY x y W H S n z col row ≤ 40000) := by
  by_cases hc : Ter.chk x y W H S n z = 0
  · by_cases h' : Ter.In2 W H col row
    · obtain ⟨e1, e2, e3⟩ := Ter.sl_in hc h'
      obtain ⟨⟨-, -, -, -, g, -, -⟩, -, hz⟩ := Ter.chk_zero hc
      obtain ⟨m, k, r, i, hm, -, -, hi, -, hin, -⟩ := in_facts hc h'
      have hmm : W.toNat = m := by omega
      rw [e2, e3, hi, hmm]
      exact ⟨g, Ter.dx_range hz hin⟩
    · rw [(Ter.sl_out hc h').1] at h; cases h
  · rw [(Ter.sl_err hc).1] at h; exact absurd h hc

set_option maxHeartbeats 1000000 in
theorem Shade_err (x y W H S : Int) (A : Option Addr) (n c : Nat) (z : Nat → Int) (col row : Int) (w : World) (hn : n ≤ 4200) (hA : Ints w w.heap.size A n z) (h : Ter.slE x y W H S n z col row ≠ 0) :
    Calls Try.prog 18 #[hgt x y W H S A n c, .int .i64 col, .int .i64 row] w fun e w' => e = .returned (.tuple #[.int .i64 0, .int .i64 (Ter.slE x y W H S n z col row)]) ∧ Below w.heap.size w w' := by
  have hb : (Ter.slE x y W H S n z col row != 0) = true := by simpa using h
  have HS := Lib.hid (Slope_any x y W H S A n c z col row)
  unfold hgt at HS
  unfold hgt
  go_enter Try.func18, Try.ntmps18
  go_wp2_with fail
  refine (HS.out _ hn (hA.later (below_box _ _))).mono ?_
  rintro e w1 ⟨rfl, hb1⟩
  have hfin := Lib.hid (below_step (below_box w _) hb1)
  clear hb1
  go_wp2
  go_ret2
  exact ⟨rfl, hfin.out⟩
set_option maxHeartbeats 1000000 in
theorem Shade_in (x y W H S : Int) (A : Option Addr) (n c : Nat) (z : Nat → Int) (col row : Int) (w : World) (hn : n ≤ 4200) (hA : Ints w w.heap.size A n z) (h : Ter.slE x y W H S n z col row = 0) :
    Calls Try.prog 18 #[hgt x y W H S A n c, .int .i64 col, .int .i64 row] w fun e w' => e = .returned (.tuple #[.int .i64 (Ter.shF (Ter.slX x y W H S n z col row) (Ter.slY x y W H S n z col row) S), .int .i64 0]) ∧ Below w.heap.size w w' := by
  have HS := Lib.hid (Slope_any x y W H S A n c z col row)
  obtain ⟨⟨s1, s2⟩, ⟨x1, x2⟩, y1, y2⟩ := sl_range h
  rw [h] at HS
  generalize Ter.slX x y W H S n z col row = dx at *
  generalize Ter.slY x y W H S n z col row = dy at *
  clear h
  unfold hgt at HS
  unfold hgt
  go_enter Try.func18, Try.ntmps18
  go_wp2_with fail
  refine (HS.out _ hn (hA.later (below_box _ _))).mono ?_
  rintro e w1 ⟨rfl, hb1⟩
  have hfin := Lib.hid (below_step (below_box w _) hb1)
  obtain ⟨hcl, hfz⟩ := bcell hb1
  clear hb1
  go_wp2_with fail
  refine (shade_any _ _ _ _ x1 x2 y1 y2 s1 s2).mono ?_
  rintro e w2 ⟨rfl, rfl⟩
  go_wp2
  go_ret2
  exact ⟨rfl, hfin.out⟩
theorem Shade_any (x y W H S : Int) (A : Option Addr) (n c : Nat) (z : Nat → Int) (col row : Int) (w : World) (hn : n ≤ 4200) (hA : Ints w w.heap.size A n z) :
    Calls Try.prog 18 #[hgt x y W H S A n c, .int .i64 col, .int .i64 row] w fun e w' => e = .returned (.tuple #[.int .i64 (Ter.shV x y W H S n z col row), .int .i64 (Ter.slE x y W H S n z col row)]) ∧ Below w.heap.size w w' := by
  unfold Ter.shV
  by_cases h : Ter.slE x y W H S n z col row = 0
  · rw [if_pos h]; have := Shade_in x y W H S A n c z col row w hn hA h; rwa [h]
  · rw [if_neg h]; exact Shade_err x y W H S A n c z col row w hn hA h
end Go.Proofs.Ythgdmcjahldihaa
