/- The contracts of num.Ceil, num.Gcd and num.Sqrt. -/
import Derived.Test.YtjclioakdmilmaaNumE
import Derived.Test.YtjclioakdmilmaaNumPlainF
namespace Go.Proofs.Ytjclioakdmilmaa
open Go.RowKit
open Num
set_option linter.unusedVariables false

theorem bits_or_i64_nat (a b : Nat) (ha : a < 4611686018427387904) (hb : b < 4611686018427387904) : bits .or .i64 (a : Int) (b : Int) = ((a ||| b : Nat) : Int) := by
  have hx : a ||| b < 2 ^ 62 := Nat.or_lt_two_pow (by omega) (by omega)
  have h1 : (BitVec.ofInt 64 (a : Int)).toNat = a := by
    rw [BitVec.ofInt_natCast, BitVec.toNat_ofNat]; exact Nat.mod_eq_of_lt (by omega)
  have h2 : (BitVec.ofInt 64 (b : Int)).toNat = b := by
    rw [BitVec.ofInt_natCast, BitVec.toNat_ofNat]; exact Nat.mod_eq_of_lt (by omega)
  show IntKind.i64.wrap ((BitVec.ofInt 64 (a : Int) ||| BitVec.ofInt 64 (b : Int)).toNat : Int) = _
  rw [BitVec.toNat_or, h1, h2]
  exact IntWalk.i64_in _ (by omega)
theorem or_pow (q j : Nat) : 2 ^ (j + 1) * q ||| 2 ^ j = 2 ^ (j + 1) * q + 2 ^ j :=
  (Nat.two_pow_add_eq_or_of_lt (Nat.pow_lt_pow_right (by omega) (by omega)) q).symm
theorem start_sq (N : Nat) (h : N ≤ 9223372036854775807) : N < (0 + 2 ^ (32 - 0)) * (0 + 2 ^ (32 - 0)) := by
  have e : (0 + 2 ^ (32 - 0)) * (0 + 2 ^ (32 - 0)) = 18446744073709551616 := by decide
  rw [e]; omega
/-- what Sqrt returns -/
def SqrtOut (N : Nat) (w : World) (e : Ending) (w' : World) : Prop := ∃ r : Nat, e = .returned (.int .i64 r) ∧ r * r ≤ N ∧ N < (r + 1) * (r + 1) ∧ r ≤ 4294967296 ∧ w = w'

end Go.Proofs.Ytjclioakdmilmaa
