/- An example of num.MulDiv: 2^40 * 2^40 / 2^20. -/
import Derived.Test.YtffmlpenohpjlaaNumF
namespace Go.Proofs.Ytffmlpenohpjlaa
open Go.RowKit
open Num
set_option linter.unusedVariables false

set_option maxRecDepth 100000 in
set_option maxHeartbeats 1000000 in
theorem len64_ex (w : World) : Calls Try.prog 42 #[.int .u64 1048576] w fun e w' => e = .returned (.int .i64 21) ∧ w = w' := by
  go_enter Try.func42, Try.ntmps42
  go_wp2
  go_ret
  exact ⟨ret_int (by decide +kernel), rfl⟩
set_option maxHeartbeats 400000 in
theorem lz64_ex (w : World) : Calls Try.prog 41 #[.int .u64 1048576] w fun e w' => e = .returned (.int .i64 43) ∧ w = w' := by
  go_enter Try.func41, Try.ntmps41
  go_wp2_with fail
  refine (len64_ex _).mono ?_
  rintro e w' ⟨rfl, rfl⟩
  go_wp2
  go_ret
  exact ⟨rfl, rfl⟩
set_option maxRecDepth 100000 in
set_option maxHeartbeats 1000000 in
theorem div64_ex (w : World) : Calls Try.prog 37 #[.int .u64 65536, .int .u64 0, .int .u64 1048576] w fun e w' => e = .returned (.tuple #[.int .u64 1152921504606846976, .int .u64 0]) ∧ w = w' := by
  go_enter Try.func37, Try.ntmps37
  go_wp2_with fail
  refine (lz64_ex _).mono ?_
  rintro e w' ⟨rfl, rfl⟩
  go_wp2_with fail
  go_loop [15, 16] (fun q r => q = .int .u64 268435456 ∧ r = .int .u64 0) (fun _ _ => 0)
  case atStart => exact ⟨congrArg (Value.int .u64) (by decide +kernel), congrArg (Value.int .u64) (by decide +kernel)⟩
  case round =>
    obtain ⟨rfl, rfl⟩ := hrel
    go_wp2_with fail
    go_loop [18, 16] (fun q r => q = .int .u64 0 ∧ r = .int .u64 0) (fun _ _ => 0)
    case atStart => exact ⟨congrArg (Value.int .u64) (by decide +kernel), congrArg (Value.int .u64) (by decide +kernel)⟩
    case round =>
      obtain ⟨rfl, rfl⟩ := hrel
      go_wp2
      go_ret2
      exact ⟨rfl, rfl⟩
set_option maxRecDepth 100000 in
set_option maxHeartbeats 1000000 in
theorem muldiv_ex (w : World) : Calls Try.prog 20 #[.int .i64 1099511627776, .int .i64 1099511627776, .int .i64 1048576] w fun e w' => e = .returned (.tuple #[.int .i64 1152921504606846976, .int .i64 0]) ∧ w = w' := by
  go_enter Try.func20, Try.ntmps20
  go_wp2_with fail
  refine (size_any 1099511627776 _ (by omega) (by omega)).mono ?_
  rintro e w' ⟨rfl, rfl⟩
  go_wp2_with fail
  refine (size_any 1099511627776 _ (by omega) (by omega)).mono ?_
  rintro e w' ⟨rfl, rfl⟩
  go_wp2_with fail
  refine (mul64_w 1099511627776 1099511627776 (by omega) (by omega) _).mono ?_
  rintro e w' ⟨rfl, hw⟩
  subst hw
  rw [show ((hi64 1099511627776 1099511627776 : Nat) : Int) = 65536 by decide, show ((lo64 1099511627776 1099511627776 : Nat) : Int) = 0 by decide]
  go_wp2_with fail
  refine (size_any 1048576 _ (by omega) (by omega)).mono ?_
  rintro e w' ⟨rfl, rfl⟩
  go_wp2_with fail
  refine (size_any 1048576 _ (by omega) (by omega)).mono ?_
  rintro e w' ⟨rfl, rfl⟩
  go_wp2_with fail
  refine (div64_ex _).mono ?_
  rintro e w' ⟨rfl, rfl⟩
  go_wp2_with fail
  refine (signed_any 1152921504606846976 false _ (by omega)).mono ?_
  rintro e w' ⟨rfl, rfl⟩
  rw [show sVal false 1152921504606846976 = 1152921504606846976 by decide, show sOk false 1152921504606846976 = true by decide]
  go_wp2
  go_ret2
  exact ⟨rfl, rfl⟩
end Go.Proofs.Ytffmlpenohpjlaa
