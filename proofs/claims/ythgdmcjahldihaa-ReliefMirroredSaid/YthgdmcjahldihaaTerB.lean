/- The contract of terrain.Check: the loop over the heights. -/
import Derived.Test.YthgdmcjahldihaaTerA
namespace Go.Proofs.Ythgdmcjahldihaa
open Go.RowKit
set_option linter.unusedVariables false

set_option maxHeartbeats 1000000 in
theorem tcheck_loop (x y W H S : Int) (A : Option Addr) (n c : Nat) (z : Nat → Int) (w : World) (hn : n ≤ 4200) (hA : Ints w w.heap.size A n z) (h : Ter.Geo x y W H S) (h' : (n : Int) = W * H) :
    Calls Try.prog 30 #[hgt x y W H S A n c] w fun e w' => e = .returned (.int .i64 (Ter.chk x y W H S n z)) ∧ Below w.heap.size w w' := by
  unfold hgt
  have hok := Lib.hid (Ter.chk_ok (z := z) h h')
  have hlo := Lib.hid (fun j hj => @Ter.chk_low x y W H S n z h h' j hj)
  obtain ⟨⟨g1, g2⟩, ⟨g3, g4⟩, ⟨g5, g6⟩, ⟨g7, g8⟩, ⟨g9, g10⟩, ⟨g11, g12⟩, ⟨g13, g14⟩⟩ := h
  have hm : 0 ≤ W * H ∧ W * H ≤ 4096 := Ter.mul_bound (A := 64) (B := 64) (by omega) (by omega) (by omega) (by omega)
  have hm4 : 4 ≤ W * H := Int.mul_le_mul g5 g7 (by omega) (by omega)
  have hne : ((n : Int) != W * H) = false := by simpa using h'
  have hp : 0 ≤ (W - 1) * S ∧ (W - 1) * S ≤ 66060288 := Ter.mul_bound (A := 63) (B := 1048576) (by omega) (by omega) (by omega) (by omega)
  have hq : 0 ≤ (H - 1) * S ∧ (H - 1) * S ≤ 66060288 := Ter.mul_bound (A := 63) (B := 1048576) (by omega) (by omega) (by omega) (by omega)
  obtain ⟨b, off, rfl, hb, hcell⟩ := hA (by omega)
  have HC := Lib.hid hcell
  clear h' hcell hA
  go_enter Try.func30, Try.ntmps30
  go_wp2_with fail
  refine (valid_yes _ _ _ _ (by simp) (by omega) (by omega) (by omega) (by omega)).mono ?_
  rintro e w' ⟨rfl, rfl⟩
  go_wp2_with fail
  refine (from_yes _ _ _ _ (by omega) (by omega)).mono ?_
  rintro e w' ⟨rfl, rfl⟩
  go_wp2_with fail
  refine (from_yes _ _ _ _ (by omega) (by omega)).mono ?_
  rintro e w' ⟨rfl, rfl⟩
  go_wp2_with fail
  refine (from_yes _ _ _ _ (by omega) (by omega)).mono ?_
  rintro e w' ⟨rfl, rfl⟩
  go_wp2_with fail
  refine (valid_yes _ _ _ _ (by simp) (by omega) (by omega) (by omega) (by omega)).mono ?_
  rintro e w' ⟨rfl, rfl⟩
  go_wp2_with fail
  go_loop [71] (fun i => ∃ k : Nat, k ≤ n ∧ i = .int .i64 k ∧ Hid (∀ j, j < k → -10000 ≤ z j ∧ z j ≤ 10000)) (fun i => n - (intOf i).toNat)
  case atStart => exact ⟨0, Nat.zero_le _, rfl, fun j hj => absurd hj (by omega)⟩
  case round =>
    obtain ⟨k, hk, rfl, hl⟩ := hrel
    by_cases hlt : k < n
    · have hcell := HC.out k hlt
      by_cases hz : -10000 ≤ z k ∧ z k ≤ 10000
      · go_wp2_with fail
        refine (from_yes _ _ _ _ (by omega) (by omega)).mono ?_
        rintro e w' ⟨rfl, rfl⟩
        go_wp2
        go_round
        case rel => exact ⟨k + 1, by omega, by go_num, fun j hj => if e : j < k then hl.out j e else by (obtain rfl : j = k := by omega); exact hz⟩
        case measure => simp [intOf]; omega
      · go_wp2_with fail
        refine (from_no _ _ _ _ (by omega)).mono ?_
        rintro e w' ⟨rfl, rfl⟩
        go_wp2
        go_ret
        rw [hlo.out k hlt hz]
        exact ⟨rfl, by go_grown⟩
    · go_wp2
      go_ret
      rw [hok.out (fun j hj => hl.out j (by omega))]
      exact ⟨rfl, by go_grown⟩

theorem tcheck_any (x y W H S : Int) (A : Option Addr) (n c : Nat) (z : Nat → Int) (w : World) (hn : n ≤ 4200) (hA : Ints w w.heap.size A n z) :
    Calls Try.prog 30 #[hgt x y W H S A n c] w fun e w' => e = .returned (.int .i64 (Ter.chk x y W H S n z)) ∧ Below w.heap.size w w' := by
  by_cases h : Ter.Geo x y W H S
  · by_cases h' : (n : Int) = W * H
    · exact tcheck_loop x y W H S A n c z w hn hA h h'
    · exact tcheck_arg x y W H S A n c z w hn h h'
  · exact tcheck_geo x y W H S A n c z w h
end Go.Proofs.Ythgdmcjahldihaa
