/- The contracts of terrain.Check and of the reference's Check: what they return for any grid. -/
import Derived.Test.YthgdmcjahldihaaNumA
import Derived.Test.YthgdmcjahldihaaTerPlain
import Derived.Deep.QuietTactic
import Derived.BigQuiet
import Derived.Laws.EntriesVeiled
namespace Go.Proofs.Ythgdmcjahldihaa
open Go.RowKit
set_option linter.unusedVariables false

/-- a grid as a value -/
abbrev hgt (x y W H S : Int) (A : Option Addr) (n c : Nat) : Value := .agg #[.int .i64 x, .int .i64 y, .int .i64 W, .int .i64 H, .int .i64 S, .slice A n c]
/-- a slice of ints, below block B, holds the numbers z 0, z 1, .. -/
def Ints (w : World) (B : Nat) (A : Option Addr) (n : Nat) (z : Nat → Int) : Prop :=
  0 < n → ∃ b off, A = some ⟨b, off, none⟩ ∧ b < B ∧ ∀ j, j < n → w.cell? ⟨b, off + j, none⟩ = some (.int .i64 (z j))


set_option maxHeartbeats 200000 in
theorem from_yes (n lo hi : Int) (w : World) (h1 : lo ≤ n) (h2 : n ≤ hi) :
    Calls Try.prog 48 #[.int .i64 n, .int .i64 lo, .int .i64 hi] w fun e w' => e = .returned (.bool true) ∧ w = w' := by
  go_enter Try.func48, Try.ntmps48
  go_wp2
  go_ret
  exact ⟨rfl, rfl⟩
set_option maxHeartbeats 200000 in
theorem from_no (n lo hi : Int) (w : World) (h : n < lo ∨ hi < n) :
    Calls Try.prog 48 #[.int .i64 n, .int .i64 lo, .int .i64 hi] w fun e w' => e = .returned (.bool false) ∧ w = w' := by
  rcases Int.lt_or_le n lo with h1 | h1
  · clear h
    go_enter Try.func48, Try.ntmps48
    go_wp2
    go_ret
    exact ⟨rfl, rfl⟩
  · have h2 : decide (n ≤ hi) = false := by simp; omega
    clear h
    go_enter Try.func48, Try.ntmps48
    go_wp2
    go_ret
    exact ⟨rfl, rfl⟩

set_option maxHeartbeats 200000 in
theorem valid_yes (x y : Int) (a : Addr) (w : World) (hc : w.cell? a = some (.func (.func 48) #[] #[])) (h1 : -1048576 ≤ x) (h2 : x ≤ 1048576) (h3 : -1048576 ≤ y) (h4 : y ≤ 1048576) :
    Calls Try.prog 49 #[.int .i64 x, .int .i64 y, .pointer (some a)] w fun e w' => e = .returned (.bool true) ∧ w = w' := by
  go_enter Try.func49, Try.ntmps49
  go_wp2_with fail
  refine (from_yes _ _ _ _ h1 h2).mono ?_
  rintro e w' ⟨rfl, rfl⟩
  go_wp2_with fail
  refine (from_yes _ _ _ _ h3 h4).mono ?_
  rintro e w' ⟨rfl, rfl⟩
  go_wp2
  go_ret
  exact ⟨rfl, rfl⟩
set_option maxHeartbeats 200000 in
theorem valid_no (x y : Int) (a : Addr) (w : World) (hc : w.cell? a = some (.func (.func 48) #[] #[])) (h : (x < -1048576 ∨ 1048576 < x) ∨ (y < -1048576 ∨ 1048576 < y)) :
    Calls Try.prog 49 #[.int .i64 x, .int .i64 y, .pointer (some a)] w fun e w' => e = .returned (.bool false) ∧ w = w' := by
  by_cases h1 : x < -1048576 ∨ 1048576 < x
  · go_enter Try.func49, Try.ntmps49
    go_wp2_with fail
    refine (from_no _ _ _ _ h1).mono ?_
    rintro e w' ⟨rfl, rfl⟩
    go_wp2
    go_ret
    exact ⟨rfl, rfl⟩
  · have h2 : y < -1048576 ∨ 1048576 < y := by omega
    go_enter Try.func49, Try.ntmps49
    go_wp2_with fail
    refine (from_yes _ _ _ _ (by omega) (by omega)).mono ?_
    rintro e w' ⟨rfl, rfl⟩
    go_wp2_with fail
    refine (from_no _ _ _ _ h2).mono ?_
    rintro e w' ⟨rfl, rfl⟩
    go_wp2
    go_ret
    exact ⟨rfl, rfl⟩

set_option maxHeartbeats 1000000 in
theorem tcheck_geo (x y W H S : Int) (A : Option Addr) (n c : Nat) (z : Nat → Int) (w : World) (h : ¬ Ter.Geo x y W H S) :
    Calls Try.prog 30 #[hgt x y W H S A n c] w fun e w' => e = .returned (.int .i64 (Ter.chk x y W H S n z)) ∧ Below w.heap.size w w' := by
  unfold hgt
  have hc := Lib.hid (Ter.chk_bad (n := n) (z := z) h)
  by_cases c1 : (-1048576 ≤ x ∧ x ≤ 1048576) ∧ (-1048576 ≤ y ∧ y ≤ 1048576)
  case neg =>
    clear h
    go_enter Try.func30, Try.ntmps30
    go_wp2_with fail
    refine (valid_no _ _ _ _ (by simp) (by omega)).mono ?_
    rintro e w' ⟨rfl, rfl⟩
    go_wp2
    go_ret
    rw [hc.out]
    exact ⟨rfl, by go_grown⟩
  by_cases c2 : 2 ≤ W ∧ W ≤ 64
  case neg =>
    clear h
    go_enter Try.func30, Try.ntmps30
    go_wp2_with fail
    refine (valid_yes _ _ _ _ (by simp) (by omega) (by omega) (by omega) (by omega)).mono ?_
    rintro e w' ⟨rfl, rfl⟩
    go_wp2_with fail
    refine (from_no _ _ _ _ (by omega)).mono ?_
    rintro e w' ⟨rfl, rfl⟩
    go_wp2
    go_ret
    rw [hc.out]
    exact ⟨rfl, by go_grown⟩
  by_cases c3 : 2 ≤ H ∧ H ≤ 64
  case neg =>
    clear h
    go_enter Try.func30, Try.ntmps30
    go_wp2_with fail
    refine (valid_yes _ _ _ _ (by simp) (by omega) (by omega) (by omega) (by omega)).mono ?_
    rintro e w' ⟨rfl, rfl⟩
    go_wp2_with fail
    refine (from_yes _ _ _ _ (by omega) (by omega)).mono ?_
    rintro e w' ⟨rfl, rfl⟩
    go_wp2_with fail
    refine (from_no _ _ _ _ (by omega)).mono ?_
    rintro e w' ⟨rfl, rfl⟩
    go_wp2
    go_ret
    rw [hc.out]
    exact ⟨rfl, by go_grown⟩
  by_cases c4 : 1 ≤ S ∧ S ≤ 1048576
  case neg =>
    clear h
    go_enter Try.func30, Try.ntmps30
    go_wp2_with fail
    refine (valid_yes _ _ _ _ (by simp) (by omega) (by omega) (by omega) (by omega)).mono ?_
    rintro e w' ⟨rfl, rfl⟩
    go_wp2_with fail
    refine (from_yes _ _ _ _ (by omega) (by omega)).mono ?_
    rintro e w' ⟨rfl, rfl⟩
    go_wp2_with fail
    refine (from_yes _ _ _ _ (by omega) (by omega)).mono ?_
    rintro e w' ⟨rfl, rfl⟩
    go_wp2_with fail
    refine (from_no _ _ _ _ (by omega)).mono ?_
    rintro e w' ⟨rfl, rfl⟩
    go_wp2
    go_ret
    rw [hc.out]
    exact ⟨rfl, by go_grown⟩
  have hp : 0 ≤ (W - 1) * S ∧ (W - 1) * S ≤ 66060288 := Ter.mul_bound (A := 63) (B := 1048576) (by omega) (by omega) (by omega) (by omega)
  have hq : 0 ≤ (H - 1) * S ∧ (H - 1) * S ≤ 66060288 := Ter.mul_bound (A := 63) (B := 1048576) (by omega) (by omega) (by omega) (by omega)
  have c5 : ¬ ((-1048576 ≤ x + (W - 1) * S ∧ x + (W - 1) * S ≤ 1048576) ∧ (-1048576 ≤ y + (H - 1) * S ∧ y + (H - 1) * S ≤ 1048576)) := fun hx => h ⟨c1.1, c1.2, c2, c3, c4, hx.1, hx.2⟩
  clear h
  go_enter Try.func30, Try.ntmps30
  go_wp2_with fail
  refine (valid_yes _ _ _ _ (by simp) (by omega) (by omega) (by omega) (by omega)).mono ?_
  rintro e w' ⟨rfl, rfl⟩
  go_wp2_with fail
  refine (from_yes _ _ _ _ (by omega) (by omega)).mono ?_
  rintro e w' ⟨rfl, rfl⟩
  go_wp2_with fail
  refine (from_yes _ _ _ _ (by omega) (by omega)).mono ?_
  rintro e w' ⟨rfl, rfl⟩
  go_wp2_with fail
  refine (from_yes _ _ _ _ (by omega) (by omega)).mono ?_
  rintro e w' ⟨rfl, rfl⟩
  go_wp2_with fail
  refine (valid_no _ _ _ _ (by simp) (by omega)).mono ?_
  rintro e w' ⟨rfl, rfl⟩
  go_wp2
  go_ret
  rw [hc.out]
  exact ⟨rfl, by go_grown⟩

set_option maxHeartbeats 1000000 in
theorem tcheck_arg (x y W H S : Int) (A : Option Addr) (n c : Nat) (z : Nat → Int) (w : World) (hn : n ≤ 4200) (h : Ter.Geo x y W H S) (h' : (n : Int) ≠ W * H) :
    Calls Try.prog 30 #[hgt x y W H S A n c] w fun e w' => e = .returned (.int .i64 (Ter.chk x y W H S n z)) ∧ Below w.heap.size w w' := by
  unfold hgt
  have hc := Lib.hid (Ter.chk_arg (z := z) h h')
  obtain ⟨⟨g1, g2⟩, ⟨g3, g4⟩, ⟨g5, g6⟩, ⟨g7, g8⟩, ⟨g9, g10⟩, ⟨g11, g12⟩, ⟨g13, g14⟩⟩ := h
  have hm : 0 ≤ W * H ∧ W * H ≤ 4096 := Ter.mul_bound (A := 64) (B := 64) (by omega) (by omega) (by omega) (by omega)
  have hne : ((n : Int) != W * H) = true := by simpa using h'
  have hp : 0 ≤ (W - 1) * S ∧ (W - 1) * S ≤ 66060288 := Ter.mul_bound (A := 63) (B := 1048576) (by omega) (by omega) (by omega) (by omega)
  have hq : 0 ≤ (H - 1) * S ∧ (H - 1) * S ≤ 66060288 := Ter.mul_bound (A := 63) (B := 1048576) (by omega) (by omega) (by omega) (by omega)
  clear h'
  go_enter Try.func30, Try.ntmps30
  go_wp2_with fail
  refine (valid_yes _ _ _ _ (by simp) (by omega) (by omega) (by omega) (by omega)).mono ?_
  rintro e w' ⟨rfl, rfl⟩
  go_wp2_with fail
  refine (from_yes _ _ _ _ (by omega) (by omega)).mono ?_
  rintro e w' ⟨rfl, rfl⟩
  go_wp2_with fail
  refine (from_yes _ _ _ _ (by omega) (by omega)).mono ?_
  rintro e w' ⟨rfl, rfl⟩
  go_wp2_with fail
  refine (from_yes _ _ _ _ (by omega) (by omega)).mono ?_
  rintro e w' ⟨rfl, rfl⟩
  go_wp2_with fail
  refine (valid_yes _ _ _ _ (by simp) (by omega) (by omega) (by omega) (by omega)).mono ?_
  rintro e w' ⟨rfl, rfl⟩
  go_wp2
  go_ret
  rw [hc.out]
  exact ⟨rfl, by go_grown⟩
end Go.Proofs.Ythgdmcjahldihaa
