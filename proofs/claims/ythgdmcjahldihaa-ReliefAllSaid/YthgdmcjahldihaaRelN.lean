/- ReliefAll returns true for every grid: the walk. -/
import Derived.Test.YthgdmcjahldihaaRelH
import Derived.Test.YthgdmcjahldihaaRelJ
import Derived.Test.YthgdmcjahldihaaRelPlainB
namespace Go.Proofs.Ythgdmcjahldihaa
open Go.RowKit
set_option linter.unusedVariables false

/-- a plate, with an error -/
def PlateOutE (p q : Int) (N : Nat) (f : Nat → Int) (E : Int) (w : World) (e : Ending) (w' : World) : Prop :=
  ∃ a cap, e = .returned (.tuple #[.agg #[.int .i64 p, .int .i64 q, .slice a N cap], .int .i64 E]) ∧ Ints w' w'.heap.size a N f ∧ Below w.heap.size w w'

/-- both Alls return the same plate -/
theorem all_both (x y W H S : Int) (A : Option Addr) (n c : Nat) (z : Nat → Int) (hn : n ≤ 4200) :
    ∃ (p q : Int) (N : Nat) (f : Nat → Int), N ≤ 4200 ∧ (∀ j, j < N → 0 ≤ f j ∧ f j ≤ 100) ∧
      (∀ w : World, Ints w w.heap.size A n z → Calls Try.prog 20 #[hgt x y W H S A n c] w (PlateOutE p q N f (Ter.chk x y W H S n z) w)) ∧
      (∀ w : World, Ints w w.heap.size A n z → Calls Try.prog 21 #[hgt x y W H S A n c] w (PlateOutE p q N f (Ter.chk x y W H S n z) w)) := by
  by_cases h : Ter.chk x y W H S n z = 0
  · obtain ⟨⟨-, -, ⟨g5, g6⟩, ⟨g7, g8⟩, ⟨g9, -⟩, -, -⟩, hw, -⟩ := Ter.chk_zero h
    refine ⟨W - 1, H - 1, (H.toNat - 1) * (W.toNat - 1), Ter.cellAt z W.toNat S, ?_, fun j _ => Ter.cellAt_range z _ g9 j, fun w hA => ?_, fun w hA => ?_⟩
    · have : (H.toNat - 1) * (W.toNat - 1) ≤ 63 * 63 := Nat.mul_le_mul (by omega) (by omega)
      omega
    · rw [h]; exact All_any x y W H S A n c z w hn hA h
    · rw [h]; exact rAll_any x y W H S A n c z w hn hA h
  · refine ⟨0, 0, 0, fun _ => 0, by omega, fun j hj => absurd hj (by omega), fun w hA => ?_, fun w hA => ?_⟩
    · exact (All_err x y W H S A n c z w hn hA h).mono fun e w' ⟨he, hb⟩ => ⟨none, 0, he, fun h0 => absurd h0 (by omega), hb⟩
    · exact (rAll_err x y W H S A n c z w hn hA h).mono fun e w' ⟨he, hb⟩ => ⟨none, 0, he, fun h0 => absurd h0 (by omega), hb⟩

set_option maxHeartbeats 1000000 in
theorem all_no (x y W H S : Int) (A : Option Addr) (n c : Nat) (w : World) (hn : ¬ n ≤ 4200) :
    Calls Try.prog 4 #[hgt x y W H S A n c] w fun e w' => e = .returned (.bool true) ∧ Below w.heap.size w w' := by
  unfold hgt
  go_enter Try.func4, Try.ntmps4
  go_wp2_with fail
  refine (fair_no _ _ _ _ _ _ _ _ _ hn).mono ?_
  rintro e w1 ⟨rfl, hb1⟩
  have F := Lib.hid (below_step (below_box w _) hb1)
  clear hb1
  go_wp2_with fail
  refine (awake45 _).mono ?_
  rintro e w2 ⟨rfl, hb2⟩
  have F2 := Lib.hid (below_step F.out hb2)
  clear hb2
  go_wp2
  go_ret
  exact ⟨rfl, F2.out⟩

set_option maxHeartbeats 1000000 in
theorem all_yes (x y W H S : Int) (A : Option Addr) (n c : Nat) (z : Nat → Int) (w : World) (hn : n ≤ 4200) (hA : Ints w w.heap.size A n z) :
    Calls Try.prog 4 #[hgt x y W H S A n c] w fun e w' => e = .returned (.bool true) ∧ Below w.heap.size w w' := by
  obtain ⟨p, q, N, f, hN, hf, h1, h2⟩ := all_both x y W H S A n c z hn
  have H1 := Lib.hid h1
  have H2 := Lib.hid h2
  have HF := Lib.hid hf
  have H0 := Lib.hid hA
  clear h1 h2 hf hA
  generalize Ter.chk x y W H S n z = E at *
  unfold hgt at H1 H2
  unfold hgt
  go_enter Try.func4, Try.ntmps4
  go_wp2_with fail
  refine (fair_yes _ _ _ _ _ _ _ _ _ hn).mono ?_
  rintro e w1 ⟨rfl, hb1⟩
  have A1 := Lib.hid ((H0.out.later (below_box _ _)).later hb1)
  have F1 := Lib.hid (below_step (below_box w _) hb1)
  have B1 := Lib.hid hb1
  obtain ⟨hcl, hfz⟩ := bcell hb1
  clear hb1
  go_wp2_with fail
  refine (H1.out _ A1.out).mono ?_
  rintro e w2 ⟨a, cap, rfl, hi2, hb2⟩
  have A2 := Lib.hid ((A1.out.later hb2).later (below_box _ (.cells #[.int .i64 p, .int .i64 q, .slice a N cap] 36)))
  have F2 := Lib.hid (below_step F1.out hb2)
  have B2 := Lib.hid (below_step B1.out hb2)
  have I2 := Lib.hid hi2
  have hs2 : w.heap.size < w2.heap.size := by have := B2.out.size; simp at this; omega
  clear hcl hfz hb2 hi2
  obtain ⟨hcl, hfz⟩ := bcell B2.out
  go_wp2_with fail
  refine (H2.out _ A2.out).mono ?_
  rintro e w3 ⟨a', cap', rfl, hi3, hb3⟩
  have B3 := Lib.hid hb3
  have F3 := Lib.hid (below_step (below_step F2.out (below_box _ _)) hb3)
  have I3 := Lib.hid hi3
  have J3 := Lib.hid ((I2.out.later (below_box _ _)).later hb3)
  have hs3 : w2.heap.size < w3.heap.size := by have := hb3.size; simp at this; omega
  clear hcl hfz hb3 hi3
  obtain ⟨hcl, hfz⟩ := bcell B3.out
  go_wp2_with fail
  refine (Same_yes p q a a' N cap cap' f f _ hN (J3.out.later (below_box _ _)) (I3.out.later (below_box _ _)) (fun _ _ => rfl)).mono ?_
  rintro e w4 ⟨rfl, hb4⟩
  have F4 := Lib.hid (below_step (below_step F3.out (below_box _ _)) hb4)
  have J4 := Lib.hid ((J3.out.later (below_box _ _)).later hb4)
  have x4 : w4.cell? ⟨w2.heap.size, 2, none⟩ = some (.slice a N cap) := by
    rw [(bcell hb4).1 _ _ (by simp; omega), World.cell?_alloc_past _ _ _ (by show w2.heap.size < _; omega), hcl _ _ (by simp)]; simp
  clear hcl hfz hb4
  go_wp2_with fail
  go_loop [7] (fun i => ∃ k : Nat, k ≤ N ∧ i = .int .i64 k) (fun i => N - (intOf i).toNat)
  case atStart => exact ⟨0, Nat.zero_le _, rfl⟩
  case round =>
    obtain ⟨k, hk, rfl⟩ := hrel
    by_cases hlt : k < N
    · obtain ⟨b1, o1, rfl, hb1, hc1⟩ := J4.out (by omega)
      have hc := hc1 k hlt
      obtain ⟨v1, v2⟩ := HF.out k hlt
      have d1 : decide (f k < 0) = false := by simp; omega
      have d2 : decide (100 < f k) = false := by simp; omega
      clear hc1
      go_wp2
      go_round
      case rel => exact ⟨k + 1, by omega, by go_num⟩
      case measure => simp [intOf]; omega
    · go_wp2_with fail
      refine (awake45 _).mono ?_
      rintro e w5 ⟨rfl, hb5⟩
      have F5 := Lib.hid (below_step F4.out hb5)
      clear hb5
      go_wp2
      go_ret
      exact ⟨rfl, F5.out⟩
theorem all_law (x y W H S : Int) (A : Option Addr) (n c : Nat) (z : Nat → Int) (w : World) (hA : Ints w w.heap.size A n z) :
    Calls Try.prog 4 #[hgt x y W H S A n c] w fun e w' => e = .returned (.bool true) ∧ Below w.heap.size w w' := by
  by_cases hn : n ≤ 4200
  · exact all_yes x y W H S A n c z w hn hA
  · exact all_no x y W H S A n c w hn
end Go.Proofs.Ythgdmcjahldihaa
