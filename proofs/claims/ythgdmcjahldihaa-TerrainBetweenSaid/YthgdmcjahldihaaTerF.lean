/- The contracts of slices.Min and slices.Max of ints, of terrain.Extent and of the reference's Extent (mapsheetsref43). -/
import Derived.Test.YthgdmcjahldihaaTerB
import Derived.Test.YthgdmcjahldihaaTerD
import Derived.Test.YthgdmcjahldihaaTerPlainB
namespace Go.Proofs.Ythgdmcjahldihaa
open Go.RowKit
set_option linter.unusedVariables false

theorem ret_iii' {a b c a' b' c' : Int} (h : a = a') (h' : b = b') (h'' : c = c') : Ending.returned (.tuple #[.int .i64 a, .int .i64 b, .int .i64 c]) = .returned (.tuple #[.int .i64 a', .int .i64 b', .int .i64 c']) := by rw [h, h', h'']
set_option maxHeartbeats 400000 in
theorem min_any (b off n c : Nat) (z : Nat → Int) (w : World) (h0 : 0 < n) (hn : n ≤ 4200) (hc : ∀ j, j < n → w.cell? ⟨b, off + j, none⟩ = some (.int .i64 (z j))) :
    Calls Try.prog 46 #[.slice (some ⟨b, off, none⟩) n c] w fun e w' => e = .returned (.int .i64 (Ter.mnA z n)) ∧ w' = w := by
  have HC := Lib.hid hc
  have c0 : w.cell? ⟨b, off, none⟩ = some (.int .i64 (z 0)) := hc 0 h0
  have q0 : (0 : Int) < (n : Int) := by omega
  have q1 : decide ((n : Int) < 1) = false := by simp; omega
  have q2 : decide (n < 1) = false := by simp; omega
  clear hc
  go_enter Try.func46, Try.ntmps46
  go_wp2_with fail
  go_loop [3, 4] (fun m i => ∃ k : Nat, 1 ≤ k ∧ k ≤ n ∧ i = .int .i64 k ∧ m = .int .i64 (Ter.mnA z k)) (fun _ i => n - (intOf i).toNat)
  case atStart => exact ⟨1, by omega, by omega, rfl, rfl⟩
  case round =>
    obtain ⟨k, hk1, hk, rfl, rfl⟩ := hrel
    by_cases hlt : k < n
    · have hcell := HC.out k hlt
      have HS := Lib.hid (Ter.mnA_step z k)
      generalize Ter.mnA z k = mk at *
      go_wp2
      all_goals
          go_round
          case rel => exact ⟨k + 1, by omega, by omega, by go_num, by rw [HS.out, Int.min_def]; first | rfl | (congr 1; split <;> split <;> omega) | (congr 1; split <;> omega)⟩
          case measure => simp [intOf]; omega
    · go_wp2
      go_ret
      exact ⟨ret_int (by rw [show k = n by omega]), rfl⟩
set_option maxHeartbeats 400000 in
theorem max_any (b off n c : Nat) (z : Nat → Int) (w : World) (h0 : 0 < n) (hn : n ≤ 4200) (hc : ∀ j, j < n → w.cell? ⟨b, off + j, none⟩ = some (.int .i64 (z j))) :
    Calls Try.prog 47 #[.slice (some ⟨b, off, none⟩) n c] w fun e w' => e = .returned (.int .i64 (Ter.mxA z n)) ∧ w' = w := by
  have HC := Lib.hid hc
  have c0 : w.cell? ⟨b, off, none⟩ = some (.int .i64 (z 0)) := hc 0 h0
  have q0 : (0 : Int) < (n : Int) := by omega
  have q1 : decide ((n : Int) < 1) = false := by simp; omega
  have q2 : decide (n < 1) = false := by simp; omega
  clear hc
  go_enter Try.func47, Try.ntmps47
  go_wp2_with fail
  go_loop [3, 4] (fun m i => ∃ k : Nat, 1 ≤ k ∧ k ≤ n ∧ i = .int .i64 k ∧ m = .int .i64 (Ter.mxA z k)) (fun _ i => n - (intOf i).toNat)
  case atStart => exact ⟨1, by omega, by omega, rfl, rfl⟩
  case round =>
    obtain ⟨k, hk1, hk, rfl, rfl⟩ := hrel
    by_cases hlt : k < n
    · have hcell := HC.out k hlt
      have HS := Lib.hid (Ter.mxA_step z k)
      generalize Ter.mxA z k = mk at *
      go_wp2
      all_goals
          go_round
          case rel => exact ⟨k + 1, by omega, by omega, by go_num, by rw [HS.out, Int.max_def]; first | rfl | (congr 1; split <;> split <;> omega) | (congr 1; split <;> omega)⟩
          case measure => simp [intOf]; omega
    · go_wp2
      go_ret
      exact ⟨ret_int (by rw [show k = n by omega]), rfl⟩

set_option maxHeartbeats 1000000 in
theorem Extent_err (x y W H S : Int) (A : Option Addr) (n c : Nat) (z : Nat → Int) (w : World) (hn : n ≤ 4200) (hA : Ints w w.heap.size A n z) (h : Ter.chk x y W H S n z ≠ 0) :
    Calls Try.prog 28 #[hgt x y W H S A n c] w fun e w' => e = .returned (.tuple #[.int .i64 0, .int .i64 0, .int .i64 (Ter.chk x y W H S n z)]) ∧ Below w.heap.size w w' := by
  have hb : (Ter.chk x y W H S n z != 0) = true := by simpa using h
  unfold hgt
  go_enter Try.func28, Try.ntmps28
  go_wp2_with fail
  refine (tcheck_any _ _ _ _ _ _ _ _ z _ hn (hA.later (below_box _ _))).mono ?_
  rintro e w1 ⟨rfl, hb1⟩
  have hfin := Lib.hid (below_step (below_box w _) hb1)
  clear hb1
  go_wp2
  go_ret3
  exact ⟨rfl, hfin.out⟩
/-- a valid grid has heights -/
theorem chk_pos {x y W H S : Int} {n : Nat} {z : Nat → Int} (h : Ter.chk x y W H S n z = 0) : 4 ≤ n := by
  obtain ⟨⟨-, -, ⟨g5, g6⟩, ⟨g7, g8⟩, -, -, -⟩, hn, hz⟩ := Ter.chk_zero h
  have h4 : 4 ≤ W * H := Int.mul_le_mul g5 g7 (by omega) (by omega)
  omega
set_option maxHeartbeats 1000000 in
theorem Extent_ok (x y W H S : Int) (A : Option Addr) (n c : Nat) (z : Nat → Int) (w : World) (hn : n ≤ 4200) (hA : Ints w w.heap.size A n z) (h : Ter.chk x y W H S n z = 0) :
    Calls Try.prog 28 #[hgt x y W H S A n c] w fun e w' => e = .returned (.tuple #[.int .i64 (Ter.mnA z n), .int .i64 (Ter.mxA z n), .int .i64 0]) ∧ Below w.heap.size w w' := by
  have hp := chk_pos h
  have HC := Lib.hid h
  obtain ⟨b, off, rfl, hb, hcell⟩ := hA (by omega)
  have HA : Ints w w.heap.size (some ⟨b, off, none⟩) n z := fun _ => ⟨b, off, rfl, hb, hcell⟩
  have HX := Lib.hid hcell
  clear h hcell hA
  unfold hgt
  go_enter Try.func28, Try.ntmps28
  go_wp2_with fail
  refine (tcheck_any _ _ _ _ _ _ _ _ z _ hn (HA.later (below_box _ _))).mono ?_
  rintro e w1 ⟨rfl, hb1⟩
  rw [HC.out]
  have hfin := Lib.hid (below_step (below_box w _) hb1)
  obtain ⟨hcl, hfz⟩ := bcell hb1
  clear hb1
  have HX1 : Hid (∀ j, j < n → w1.cell? ⟨b, off + j, none⟩ = some (.int .i64 (z j))) := Lib.hid fun j hj => cell_in hfin.out (HX.out j hj) hb
  go_wp2_with fail
  go_quiet (first | (go_at_call 46; exact Calls.quiet_of_same (min_any b off n c z _ (by omega) hn (fun j hj => HX1.out j hj))) | (go_at_call 47; exact Calls.quiet_of_same (max_any b off n c z _ (by omega) hn (fun j hj => HX1.out j hj))))
  go_wp2
  go_ret3
  exact ⟨rfl, below_drew hfin.out _⟩
set_option maxHeartbeats 1000000 in
theorem rExtent_err (x y W H S : Int) (A : Option Addr) (n c : Nat) (z : Nat → Int) (w : World) (hn : n ≤ 4200) (hA : Ints w w.heap.size A n z) (h : Ter.chk x y W H S n z ≠ 0) :
    Calls Try.prog 29 #[hgt x y W H S A n c] w fun e w' => e = .returned (.tuple #[.int .i64 0, .int .i64 0, .int .i64 (Ter.chk x y W H S n z)]) ∧ Below w.heap.size w w' := by
  have hb : (Ter.chk x y W H S n z != 0) = true := by simpa using h
  unfold hgt
  go_enter Try.func29, Try.ntmps29
  go_wp2_with fail
  refine (rcheck_any _ _ _ _ _ _ _ _ z _ hn (hA.later (below_box _ _))).mono ?_
  rintro e w1 ⟨rfl, hb1⟩
  have hfin := Lib.hid (below_step (below_box w _) hb1)
  clear hb1
  go_wp2
  go_ret3
  exact ⟨rfl, hfin.out⟩
set_option maxHeartbeats 1000000 in
theorem rExtent_ok (x y W H S : Int) (A : Option Addr) (n c : Nat) (z : Nat → Int) (w : World) (hn : n ≤ 4200) (hA : Ints w w.heap.size A n z) (h : Ter.chk x y W H S n z = 0) :
    Calls Try.prog 29 #[hgt x y W H S A n c] w fun e w' => e = .returned (.tuple #[.int .i64 (Ter.mnA z n), .int .i64 (Ter.mxA z n), .int .i64 0]) ∧ Below w.heap.size w w' := by
  have hp := chk_pos h
  have HC := Lib.hid h
  obtain ⟨b, off, rfl, hb, hcell⟩ := hA (by omega)
  have HA : Ints w w.heap.size (some ⟨b, off, none⟩) n z := fun _ => ⟨b, off, rfl, hb, hcell⟩
  have HX := Lib.hid hcell
  clear h hcell hA
  unfold hgt
  go_enter Try.func29, Try.ntmps29
  go_wp2_with fail
  refine (rcheck_any _ _ _ _ _ _ _ _ z _ hn (HA.later (below_box _ _))).mono ?_
  rintro e w1 ⟨rfl, hb1⟩
  rw [HC.out]
  have hfin := Lib.hid (below_step (below_box w _) hb1)
  have bx : w1.cell? ⟨w.heap.size, 5, none⟩ = some (.slice (some ⟨b, off, none⟩) n c) := by rw [(bcell hb1).1 _ _ (by simp)]; simp
  clear hb1
  have HX1 : Hid (∀ j, j < n → w1.cell? ⟨b, off + j, none⟩ = some (.int .i64 (z j))) := Lib.hid fun j hj => cell_in hfin.out (HX.out j hj) hb
  have c0 : w1.cell? ⟨b, off, none⟩ = some (.int .i64 (z 0)) := HX1.out 0 (by omega)
  have q0 : (0 : Int) < (n : Int) := by omega
  have q00 : (0 : Int) ≤ (0 : Int) := by omega
  go_wp2_with fail
  go_quiet (fail)
  clear c0
  go_wp2_with fail
  go_loopw [6, 7, 8] (fun lo hi i wr => ∃ k : Nat, k ≤ n ∧ i = .int .i64 k ∧ lo = .int .i64 (Ter.mnA z k) ∧ hi = .int .i64 (Ter.mxA z k) ∧ Hid (∃ nn, wr = w1.drewN nn)) (fun _ _ i _ => n - (intOf i).toNat)
  case atStart => exact ⟨0, by omega, rfl, rfl, rfl, Lib.hid ⟨_, rfl⟩⟩
  case round =>
    obtain ⟨k, hk, rfl, rfl, rfl, HW⟩ := hrel
    have bx2 : wr.cell? ⟨w.heap.size, 5, none⟩ = some (.slice (some ⟨b, off, none⟩) n c) := by obtain ⟨nn, h⟩ := HW.out; rw [h]; exact bx
    by_cases hlt : k < n
    · have hcell : wr.cell? ⟨b, off + k, none⟩ = some (.int .i64 (z k)) := by obtain ⟨nn, h⟩ := HW.out; rw [h]; exact HX1.out k hlt
      have HS := Lib.hid (Ter.mnA_step z k)
      have HS' := Lib.hid (Ter.mxA_step z k)
      generalize Ter.mnA z k = mk at *
      generalize Ter.mxA z k = mk' at *
      have q1 : (0 : Int) ≤ (k : Int) := by omega
      have q2 : (k : Int) < (n : Int) := by omega
      go_wp2_with fail
      go_quiet (fail)
      go_wp2
      all_goals
        go_roundw
        case rel => exact ⟨k + 1, by omega, by go_num, by rw [HS.out, Int.min_def]; first | rfl | (congr 1; split <;> split <;> omega) | (congr 1; split <;> omega), by rw [HS'.out, Int.max_def]; first | rfl | (congr 1; split <;> split <;> omega) | (congr 1; split <;> omega), Lib.hid (by obtain ⟨k, hk⟩ := HW.out; exact ⟨k + _, by rw [hk, World.drewN_drewN]⟩)⟩
        case measure => simp [intOf]; omega
    · have HK := Lib.hid (show k = n by omega)
      have HF : Hid (Below w.heap.size w wr) := by obtain ⟨nn, h⟩ := HW.out; rw [h]; exact Lib.hid (below_drew hfin.out _)
      go_wp2
      go_ret3
      exact ⟨ret_iii' (by rw [HK.out]) (by rw [HK.out]) rfl, HF.out⟩
/-- what Extent returns -/
def exLo (x y W H S : Int) (n : Nat) (z : Nat → Int) : Int := if Ter.chk x y W H S n z = 0 then Ter.mnA z n else 0
def exHi (x y W H S : Int) (n : Nat) (z : Nat → Int) : Int := if Ter.chk x y W H S n z = 0 then Ter.mxA z n else 0
theorem Extent_any (x y W H S : Int) (A : Option Addr) (n c : Nat) (z : Nat → Int) (w : World) (hn : n ≤ 4200) (hA : Ints w w.heap.size A n z) :
    Calls Try.prog 28 #[hgt x y W H S A n c] w fun e w' => e = .returned (.tuple #[.int .i64 (exLo x y W H S n z), .int .i64 (exHi x y W H S n z), .int .i64 (Ter.chk x y W H S n z)]) ∧ Below w.heap.size w w' := by
  unfold exLo exHi
  by_cases h : Ter.chk x y W H S n z = 0
  · rw [if_pos h, if_pos h]; have := Extent_ok x y W H S A n c z w hn hA h; rwa [h]
  · rw [if_neg h, if_neg h]; exact Extent_err x y W H S A n c z w hn hA h
theorem rExtent_any (x y W H S : Int) (A : Option Addr) (n c : Nat) (z : Nat → Int) (w : World) (hn : n ≤ 4200) (hA : Ints w w.heap.size A n z) :
    Calls Try.prog 29 #[hgt x y W H S A n c] w fun e w' => e = .returned (.tuple #[.int .i64 (exLo x y W H S n z), .int .i64 (exHi x y W H S n z), .int .i64 (Ter.chk x y W H S n z)]) ∧ Below w.heap.size w w' := by
  unfold exLo exHi
  by_cases h : Ter.chk x y W H S n z = 0
  · rw [if_pos h, if_pos h]; have := rExtent_ok x y W H S A n c z w hn hA h; rwa [h]
  · rw [if_neg h, if_neg h]; exact rExtent_err x y W H S A n c z w hn hA h
end Go.Proofs.Ythgdmcjahldihaa
