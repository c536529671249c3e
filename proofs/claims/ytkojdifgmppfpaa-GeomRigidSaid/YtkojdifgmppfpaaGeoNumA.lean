/- The contracts of the parts of num and of math/bits that geom reaches. -/
import Derived.Test.YtkojdifgmppfpaaRows
import Derived.Test.YtkojdifgmppfpaaNumPlain
import Derived.Test.YtkojdifgmppfpaaNumPlainI
import Derived.WalkKit
import Derived.WalkSpells
import Derived.WalkLawsBesides
import Derived.Handy
import Derived.Lib.Hide
import Derived.Deep.QuietTactic
import Derived.BigQuiet
import Derived.Below
import Derived.Lib.Mul64
import Derived.Laws.Bits64b
import Derived.Lib.Strings
import Derived.Lib.Slices
import Derived.Lib.Small
import Derived.Lib.Walk
import Derived.Lib.BitFns
import Derived.Lib.ItoaNum
import Derived.Deep.Light
namespace Go.Proofs.Ytkojdifgmppfpaa
open Go.RowKit
open Num
set_option linter.unusedVariables false
theorem ret_int {k : IntKind} {a b : Int} (h : a = b) : Ending.returned (.int k a) = .returned (.int k b) := by rw [h]
theorem ret_two {k l : IntKind} {a b c d : Int} (h : a = c) (h' : b = d) : Ending.returned (.tuple #[.int k a, .int l b]) = .returned (.tuple #[.int k c, .int l d]) := by rw [h, h']
set_option maxHeartbeats 400000 in
theorem size_any (n : Int) (w : World) (h1 : -9223372036854775808 ≤ n) (h2 : n ≤ 9223372036854775807) :
    Calls Try.prog 50 #[.int .i64 n] w fun e w' => e = .returned (.int .u64 n.natAbs) ∧ w = w' := by
  by_cases h : n < 0
  · go_enter Try.func50, Try.ntmps50
    go_wp2
    go_ret
    exact ⟨ret_int (by simp only [IntKind.wrap_u64]; omega), rfl⟩
  · go_enter Try.func50, Try.ntmps50
    go_wp2
    go_ret
    exact ⟨ret_int (by omega), rfl⟩
set_option maxHeartbeats 400000 in
theorem divisor_any (a b : Nat) (w : World) (ha : a < 18446744073709551616) (hb : b < 18446744073709551616) :
    Calls Try.prog 53 #[.int .u64 a, .int .u64 b] w fun e w' => e = .returned (.int .u64 (Nat.gcd a b)) ∧ ∃ n, w' = w.drewN n := by
  go_enter Try.func53, Try.ntmps53
  go_wp2_with fail
  go_loopw [0, 1] (fun u v wr => ∃ x y : Nat, x < 18446744073709551616 ∧ y < 18446744073709551616 ∧ u = .int .u64 x ∧ v = .int .u64 y ∧ Hid (Nat.gcd x y = Nat.gcd a b) ∧ Hid (∃ n, wr = w.drewN n)) (fun _ v _ => (intOf v).toNat)
  case atStart => exact ⟨a, b, ha, hb, rfl, rfl, Lib.hid rfl, Lib.hid ⟨0, rfl⟩⟩
  case round =>
    obtain ⟨x, y, hx, hy, rfl, rfl, HG, HW⟩ := hrel
    by_cases h0 : y = 0
    · subst h0
      go_wp2
      go_ret
      exact ⟨ret_int (by rw [← HG.out]; simp), HW.out⟩
    · have h1 : ((y : Int) != 0) = true := by simpa using h0
      have h2 : (y : Int) ≠ 0 := by simpa using h0
      have h3 : (1 : Int) ≤ y := by omega
      have hm : x % y < y := Nat.mod_lt _ (by omega)
      go_wp2_with fail
      go_quiet (fail)
      go_wp2
      go_roundw
      case rel => exact ⟨y, x % y, hy, by omega, rfl, by first | rfl | go_num, Lib.hid (by rw [← HG.out, Nat.gcd_comm x y, Nat.gcd_rec y x, Nat.gcd_comm]), Lib.hid (by obtain ⟨k, hk⟩ := HW.out; exact ⟨k + nq, by rw [hk, World.drewN_drewN]⟩)⟩
      case measure => simp [intOf]; omega
theorem ret_ib {a b : Int} {c d : Bool} (h : a = b) (h' : c = d) : Ending.returned (.tuple #[.int .i64 a, .bool c]) = .returned (.tuple #[.int .i64 b, .bool d]) := by rw [h, h']
set_option maxHeartbeats 400000 in
theorem signed_any (n : Nat) (neg : Bool) (w : World) (hn : n < 18446744073709551616) :
    Calls Try.prog 52 #[.int .u64 n, .bool neg] w fun e w' => e = .returned (.tuple #[.int .i64 (sVal neg n), .bool (sOk neg n)]) ∧ w = w' := by
  rcases Nat.lt_trichotomy n 9223372036854775808 with h | h | h <;> cases neg
  all_goals
    go_enter Try.func52, Try.ntmps52
    go_wp2
    go_ret2
    refine ⟨ret_ib ?_ ?_, rfl⟩ <;> simp [sVal, sOk, IntKind.wrap_u64, wrap64] <;> omega
theorem below_box_drewN (w : World) (o : Obj) (n : Nat) : Below w.heap.size w ((w.alloc o).drewN n) := ((Below.refl _ _).alloc (Nat.le_refl _) _).trans ⟨rfl, rfl, rfl, Nat.le_refl _, fun _ _ => rfl⟩
set_option maxHeartbeats 400000 in
theorem gcd_any (a b : Int) (w : World) (h1 : I64 a) (h2 : I64 b) :
    Calls Try.prog 43 #[.int .i64 a, .int .i64 b] w fun e w' => e = .returned (.int .i64 (gcV a b)) ∧ ∃ n, w' = w.drewN n := by
  unfold I64 at h1 h2
  obtain ⟨h11, h12⟩ := h1
  obtain ⟨h21, h22⟩ := h2
  have hg : Nat.gcd a.natAbs b.natAbs < 18446744073709551616 := by
    rcases Nat.eq_zero_or_pos a.natAbs with h0 | h0
    · rw [h0, Nat.gcd_zero_left]; omega
    · have := Nat.gcd_le_left b.natAbs h0; omega
  have HV : Hid (sVal false (Nat.gcd a.natAbs b.natAbs) = gcV a b) := by
    apply Lib.hid; unfold sVal sOk gcV; simp
  go_enter Try.func43, Try.ntmps43
  go_wp2_with fail
  refine (size_any a _ h11 h12).mono ?_
  rintro e w' ⟨rfl, rfl⟩
  go_wp2_with fail
  refine (size_any b _ h21 h22).mono ?_
  rintro e w' ⟨rfl, rfl⟩
  go_wp2_with fail
  refine (divisor_any a.natAbs b.natAbs _ (by omega) (by omega)).mono ?_
  rintro e w' ⟨rfl, n, rfl⟩
  generalize Nat.gcd a.natAbs b.natAbs = g at *
  go_wp2_with fail
  refine (signed_any g false _ hg).mono ?_
  rintro e w' ⟨rfl, rfl⟩
  rw [HV.out]
  go_wp2
  go_ret
  exact ⟨rfl, n, rfl⟩
end Go.Proofs.Ytkojdifgmppfpaa
