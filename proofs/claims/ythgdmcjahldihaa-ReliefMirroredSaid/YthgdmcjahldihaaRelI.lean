/- The contract of the reference's Same for equal plates, and of the law's awake and fair. -/
import Derived.Test.YthgdmcjahldihaaRelG
namespace Go.Proofs.Ythgdmcjahldihaa
open Go.RowKit
set_option linter.unusedVariables false

set_option maxHeartbeats 1000000 in
theorem Same_yes (p q : Int) (a b : Option Addr) (n ca cb : Nat) (f g : Nat → Int) (w : World) (hn : n ≤ 4200) (ha : Ints w w.heap.size a n f) (hb : Ints w w.heap.size b n g) (hfg : ∀ j, j < n → f j = g j) :
    Calls Try.prog 22 #[.agg #[.int .i64 p, .int .i64 q, .slice a n ca], .agg #[.int .i64 p, .int .i64 q, .slice b n cb]] w fun e w' => e = .returned (.bool true) ∧ Below w.heap.size w w' := by
  have HA := Lib.hid ha
  have HB := Lib.hid hb
  have HF := Lib.hid hfg
  clear ha hb hfg
  go_enter Try.func22, Try.ntmps22
  go_wp2_with fail
  go_loopw [5] (fun i wr => ∃ k : Nat, k ≤ n ∧ i = .int .i64 k ∧ Below ((w.alloc (.cells #[.int .i64 p, .int .i64 q, .slice a n ca] 36)).alloc (.cells #[.int .i64 p, .int .i64 q, .slice b n cb] 36)).heap.size ((w.alloc (.cells #[.int .i64 p, .int .i64 q, .slice a n ca] 36)).alloc (.cells #[.int .i64 p, .int .i64 q, .slice b n cb] 36)) wr)
    (fun i _ => n - (intOf i).toNat)
  case atStart => exact ⟨0, Nat.zero_le _, rfl, Below.refl _ _⟩
  case round =>
    obtain ⟨k, hk, rfl, hbl⟩ := hrel
    have BL := Lib.hid hbl
    have x1 : wr.cell? ⟨w.heap.size, 2, none⟩ = some (.slice a n ca) := by rw [(bcell hbl).1 _ _ (by simp; omega)]; simp
    have x2 : wr.cell? ⟨w.heap.size + 1, 2, none⟩ = some (.slice b n cb) := by rw [(bcell hbl).1 _ _ (by simp)]; simp
    have hold := (below_step (below_step (below_box _ _) (below_box _ _)) hbl)
    have HO := Lib.hid hold
    clear hbl hold
    by_cases hlt : k < n
    · obtain ⟨b1, o1, rfl, hb1, hc1⟩ := HA.out (by omega)
      obtain ⟨b2, o2, rfl, hb2, hc2⟩ := HB.out (by omega)
      have h1 := cell_in HO.out (hc1 k hlt) hb1
      have h2 := cell_in HO.out (hc2 k hlt) hb2
      rw [← HF.out k hlt] at h2
      clear hc1 hc2
      go_wp2_with fail
      go_quiet (fail)
      go_wp2
      go_roundw
      case rel => exact ⟨k + 1, by omega, by go_num, below_drew BL.out _⟩
      case measure => simp [intOf]; omega
    · go_wp2
      go_ret
      exact ⟨rfl, below_step (below_step (below_box _ _) (below_box _ _)) BL.out⟩

set_option maxHeartbeats 400000 in
theorem fair_yes (x y W H S : Int) (A : Option Addr) (n c : Nat) (w : World) (hn : n ≤ 4200) :
    Calls Try.prog 14 #[hgt x y W H S A n c] w fun e w' => e = .returned (.bool true) ∧ Below w.heap.size w w' := by
  unfold hgt
  have d : decide ((n : Int) ≤ 4200) = true := by simp; omega
  go_enter Try.func14, Try.ntmps14
  go_wp2
  go_ret
  exact ⟨rfl, by go_grown⟩
set_option maxHeartbeats 400000 in
theorem fair_no (x y W H S : Int) (A : Option Addr) (n c : Nat) (w : World) (hn : ¬ n ≤ 4200) :
    Calls Try.prog 14 #[hgt x y W H S A n c] w fun e w' => e = .returned (.bool false) ∧ Below w.heap.size w w' := by
  unfold hgt
  have d : decide ((n : Int) ≤ 4200) = false := by simp; omega
  go_enter Try.func14, Try.ntmps14
  go_wp2
  go_ret
  exact ⟨rfl, by go_grown⟩
end Go.Proofs.Ythgdmcjahldihaa
