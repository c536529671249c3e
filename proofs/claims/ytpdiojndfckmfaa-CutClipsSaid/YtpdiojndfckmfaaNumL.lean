/- The contract of the reference's Valid (mapsheetsref01). -/
import Derived.Test.YtpdiojndfckmfaaNumI
import Derived.Test.YtpdiojndfckmfaaCutBase
namespace Go.Proofs.Ytpdiojndfckmfaa
open Go.RowKit
open Num
set_option linter.unusedVariables false
set_option maxHeartbeats 400000 in
theorem rvalid_any (n d : Int) (w : World) (h1 : I64 n) (h2 : I64 d) :
    Calls Try.prog 65 #[.agg #[.int .i64 n, .int .i64 d]] w fun e w' => e = .returned (.bool (vld n d)) ∧ Below w.heap.size w w' := by
  unfold I64 at h1 h2
  obtain ⟨h11, h12⟩ := h1
  obtain ⟨h21, h22⟩ := h2
  by_cases hd : 0 < d
  · have HV : Hid (vld n d = ((Nat.gcd n.natAbs d.natAbs : Int) == 1)) := by apply Lib.hid; unfold vld gd; rw [decide_eq_true hd]; simp
    generalize vld n d = V at *
    go_enter Try.func65, Try.ntmps65
    go_wp2_with fail
    go_quiet (first | (go_at_call 60; exact Calls.quiet_of_same (rsize_any _ _ (by omega) (by omega))) | (go_at_call 73; exact Calls.quiet_of (common_any n.natAbs d.natAbs _ (by omega) (by omega))))
    go_wp2
    go_ret
    exact ⟨ret_bool' HV.out.symm, below_box_drewN _ _ _⟩
  · have hd' : decide (0 < d) = false := by simpa using hd
    have HV : Hid (vld n d = false) := by apply Lib.hid; unfold vld; rw [hd']; rfl
    generalize vld n d = V at *
    go_enter Try.func65, Try.ntmps65
    go_wp2_with fail
    go_quiet (fail)
    go_wp2
    go_ret
    exact ⟨ret_bool' HV.out.symm, below_box_drewN _ _ _⟩
end Go.Proofs.Ytpdiojndfckmfaa
