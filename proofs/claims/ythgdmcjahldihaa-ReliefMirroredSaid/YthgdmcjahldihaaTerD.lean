/- The contract of the reference's Check (mapsheetsref43), for grids whose numbers are in their ranges. -/
import Derived.Test.YthgdmcjahldihaaTerC
namespace Go.Proofs.Ythgdmcjahldihaa
open Go.RowKit
set_option linter.unusedVariables false

theorem cell_in {w w1 : World} {b o : Nat} {v : Value} {B : Nat} (hb : Below B w w1) (h : w.cell? ⟨b, o, none⟩ = some v) (hB : b < B) : w1.cell? ⟨b, o, none⟩ = some v := (hb.cell (p := ⟨b, o, none⟩) hB).trans h

set_option maxHeartbeats 1000000 in
theorem rcheck_arg (x y W H S : Int) (A : Option Addr) (n c : Nat) (z : Nat → Int) (w : World) (hn : n ≤ 4200) (h : Ter.Geo x y W H S) (h' : (n : Int) ≠ W * H) :
    Calls Try.prog 23 #[hgt x y W H S A n c] w fun e w' => e = .returned (.int .i64 (Ter.chk x y W H S n z)) ∧ Below w.heap.size w w' := by
  unfold hgt
  have hc := Lib.hid (Ter.chk_arg (z := z) h h')
  obtain ⟨⟨g1, g2⟩, ⟨g3, g4⟩, ⟨g5, g6⟩, ⟨g7, g8⟩, ⟨g9, g10⟩, ⟨g11, g12⟩, ⟨g13, g14⟩⟩ := h
  have hm : 0 ≤ W * H ∧ W * H ≤ 4096 := Ter.mul_bound (A := 64) (B := 64) (by omega) (by omega) (by omega) (by omega)
  have hne : ((n : Int) != W * H) = true := by simpa using h'
  have hp : 0 ≤ (W - 1) * S ∧ (W - 1) * S ≤ 66060288 := Ter.mul_bound (A := 63) (B := 1048576) (by omega) (by omega) (by omega) (by omega)
  have hq : 0 ≤ (H - 1) * S ∧ (H - 1) * S ≤ 66060288 := Ter.mul_bound (A := 63) (B := 1048576) (by omega) (by omega) (by omega) (by omega)
  have b1 : decide (W < 2) = false := by simp; omega
  have b2 : decide (64 < W) = false := by simp; omega
  have b3 : decide (H < 2) = false := by simp; omega
  have b4 : decide (64 < H) = false := by simp; omega
  have b5 : decide (S < 1) = false := by simp; omega
  have b6 : decide (1048576 < S) = false := by simp; omega
  clear h'
  go_enter Try.func23, Try.ntmps23
  go_wp2_with fail
  refine (rpoint_yes _ _ _ (by omega) (by omega) (by omega) (by omega)).mono ?_
  rintro e w1 ⟨rfl, hb⟩
  obtain ⟨hcl, hfz⟩ := bcell hb
  go_wp2_with fail
  refine (rat_any _ _ _ _ _ _ _ _ _ _ _ (by omega) (by omega) (by omega) (by omega) (by omega) (by omega) (by omega) (by omega)).mono ?_
  rintro e w2 ⟨rfl, hb2⟩
  have hs := hb.size
  go_wp2_with fail
  refine (rpoint_yes _ _ _ (by omega) (by omega) (by omega) (by omega)).mono ?_
  rintro e w3 ⟨rfl, hb3⟩
  have hall := below_step (below_step hb hb2) hb3
  have hfin := Lib.hid (below_step (below_box w _) hall)
  clear hcl hfz hb hb2 hb3 hs
  obtain ⟨hcl, hfz⟩ := bcell hall
  clear hall
  go_wp2
  go_ret
  rw [hc.out]
  exact ⟨rfl, hfin.out⟩

set_option maxHeartbeats 1000000 in
theorem rcheck_loop (x y W H S : Int) (A : Option Addr) (n c : Nat) (z : Nat → Int) (w : World) (hn : n ≤ 4200) (hA : Ints w w.heap.size A n z) (h : Ter.Geo x y W H S) (h' : (n : Int) = W * H) :
    Calls Try.prog 23 #[hgt x y W H S A n c] w fun e w' => e = .returned (.int .i64 (Ter.chk x y W H S n z)) ∧ Below w.heap.size w w' := by
  unfold hgt
  have hok := Lib.hid (Ter.chk_ok (z := z) h h')
  have hlo := Lib.hid (fun j hj => @Ter.chk_low x y W H S n z h h' j hj)
  obtain ⟨⟨g1, g2⟩, ⟨g3, g4⟩, ⟨g5, g6⟩, ⟨g7, g8⟩, ⟨g9, g10⟩, ⟨g11, g12⟩, ⟨g13, g14⟩⟩ := h
  have hm : 0 ≤ W * H ∧ W * H ≤ 4096 := Ter.mul_bound (A := 64) (B := 64) (by omega) (by omega) (by omega) (by omega)
  have hm4 : 4 ≤ W * H := Int.mul_le_mul g5 g7 (by omega) (by omega)
  have hne : ((n : Int) != W * H) = false := by simpa using h'
  have hp : 0 ≤ (W - 1) * S ∧ (W - 1) * S ≤ 66060288 := Ter.mul_bound (A := 63) (B := 1048576) (by omega) (by omega) (by omega) (by omega)
  have hq : 0 ≤ (H - 1) * S ∧ (H - 1) * S ≤ 66060288 := Ter.mul_bound (A := 63) (B := 1048576) (by omega) (by omega) (by omega) (by omega)
  have b1 : decide (W < 2) = false := by simp; omega
  have b2 : decide (64 < W) = false := by simp; omega
  have b3 : decide (H < 2) = false := by simp; omega
  have b4 : decide (64 < H) = false := by simp; omega
  have b5 : decide (S < 1) = false := by simp; omega
  have b6 : decide (1048576 < S) = false := by simp; omega
  obtain ⟨b, off, rfl, hbb, hcell⟩ := hA (by omega)
  have HC := Lib.hid hcell
  clear h' hcell hA
  go_enter Try.func23, Try.ntmps23
  go_wp2_with fail
  refine (rpoint_yes _ _ _ (by omega) (by omega) (by omega) (by omega)).mono ?_
  rintro e w1 ⟨rfl, hb⟩
  obtain ⟨hcl, hfz⟩ := bcell hb
  go_wp2_with fail
  refine (rat_any _ _ _ _ _ _ _ _ _ _ _ (by omega) (by omega) (by omega) (by omega) (by omega) (by omega) (by omega) (by omega)).mono ?_
  rintro e w2 ⟨rfl, hb2⟩
  go_wp2_with fail
  refine (rpoint_yes _ _ _ (by omega) (by omega) (by omega) (by omega)).mono ?_
  rintro e w3 ⟨rfl, hb3⟩
  have hall := below_step (below_step hb hb2) hb3
  have hfin := Lib.hid (below_step (below_box w _) hall)
  clear hcl hfz hb hb2 hb3
  obtain ⟨hcl, hfz⟩ := bcell hall
  clear hall
  go_wp2_with fail
  go_loop [3] (fun i => ∃ k : Nat, k ≤ n ∧ i = .int .i64 k ∧ Hid (∀ j, j < k → -10000 ≤ z j ∧ z j ≤ 10000)) (fun i => n - (intOf i).toNat)
  case atStart => exact ⟨0, Nat.zero_le _, rfl, fun j hj => absurd hj (by omega)⟩
  case round =>
    obtain ⟨k, hk, rfl, hl⟩ := hrel
    by_cases hlt : k < n
    · have hcell := HC.out k hlt
      by_cases hz : -10000 ≤ z k ∧ z k ≤ 10000
      · have d1 : decide (z k < -10000) = false := by simp; omega
        have d2 : decide (10000 < z k) = false := by simp; omega
        go_wp2
        go_round
        case rel => exact ⟨k + 1, by omega, by go_num, fun j hj => if e : j < k then hl.out j e else by (obtain rfl : j = k := by omega); exact hz⟩
        case measure => simp [intOf]; omega
      · rcases Int.lt_or_le (z k) (-10000) with d1 | d1
        all_goals
          go_wp2
          go_ret
          rw [hlo.out k hlt hz]
          exact ⟨rfl, hfin.out⟩
    · go_wp2
      go_ret
      rw [hok.out (fun j hj => hl.out j (by omega))]
      exact ⟨rfl, hfin.out⟩

theorem rcheck_any (x y W H S : Int) (A : Option Addr) (n c : Nat) (z : Nat → Int) (w : World) (hn : n ≤ 4200) (hA : Ints w w.heap.size A n z) :
    Calls Try.prog 23 #[hgt x y W H S A n c] w fun e w' => e = .returned (.int .i64 (Ter.chk x y W H S n z)) ∧ Below w.heap.size w w' := by
  by_cases h : Ter.Geo x y W H S
  · by_cases h' : (n : Int) = W * H
    · exact rcheck_loop x y W H S A n c z w hn hA h h'
    · exact rcheck_arg x y W H S A n c z w hn h h'
  · exact rcheck_geo x y W H S A n c z w h
end Go.Proofs.Ythgdmcjahldihaa
