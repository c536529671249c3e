/- The contracts of num.divisor, num.signed, num.Make and of the reference's common and Make. -/
import Derived.Test.YtjclioakdmilmaaNumB
import Derived.Test.YtjclioakdmilmaaNumPlainC
import Derived.Below
namespace Go.Proofs.Ytjclioakdmilmaa
open Go.RowKit
open Num

theorem ret_ib {a b : Int} {c d : Bool} (h : a = b) (h' : c = d) : Ending.returned (.tuple #[.int .i64 a, .bool c]) = .returned (.tuple #[.int .i64 b, .bool d]) := by rw [h, h']
set_option maxHeartbeats 400000 in
theorem signed_any (n : Nat) (neg : Bool) (w : World) (hn : n < 18446744073709551616) :
    Calls Try.prog 48 #[.int .u64 n, .bool neg] w fun e w' => e = .returned (.tuple #[.int .i64 (sVal neg n), .bool (sOk neg n)]) ∧ w = w' := by
  rcases Nat.lt_trichotomy n 9223372036854775808 with h | h | h <;> cases neg
  all_goals
    go_enter Try.func48, Try.ntmps48
    go_wp2
    go_ret2
    refine ⟨ret_ib ?_ ?_, rfl⟩ <;> simp [sVal, sOk, IntKind.wrap_u64, wrap64] <;> omega

/-- a quotient of absolute values -/
theorem quo_in (a : Int) (g : Nat) (h1 : -9223372036854775808 ≤ a) (h2 : a ≤ 9223372036854775807) : IntKind.u64.wrap ((a.natAbs : Int) / (g : Int)) = ((a.natAbs / g : Nat) : Int) := by
  have : a.natAbs / g ≤ a.natAbs := Nat.div_le_self _ _
  rw [← Int.natCast_ediv]
  generalize a.natAbs / g = z at *
  exact IntWalk.u64_in _ (by omega)

theorem below_box_drewN (w : World) (o : Obj) (n : Nat) : Below w.heap.size w ((w.alloc o).drewN n) := ((Below.refl _ _).alloc (Nat.le_refl _) _).trans ⟨rfl, rfl, rfl, Nat.le_refl _, fun _ _ => rfl⟩
/-- a fraction with an error, as Make returns it -/
def FracOut (p q E : Int) (w : World) (e : Ending) (w' : World) : Prop :=
  e = .returned (.tuple #[.agg #[.int .i64 p, .int .i64 q], .int .i64 E]) ∧ Below w.heap.size w w'

end Go.Proofs.Ytjclioakdmilmaa
