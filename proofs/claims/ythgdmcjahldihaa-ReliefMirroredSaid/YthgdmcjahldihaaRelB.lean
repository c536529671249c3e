/- The contract of relief.shade. -/
import Derived.Test.YthgdmcjahldihaaTerD
import Derived.Test.YthgdmcjahldihaaRelPlain
namespace Go.Proofs.Ythgdmcjahldihaa
open Go.RowKit
open Num
set_option linter.unusedVariables false

set_option maxHeartbeats 400000 in
theorem shade_any (dx dy S : Int) (w : World) (h1 : -40000 ≤ dx) (h2 : dx ≤ 40000) (h3 : -40000 ≤ dy) (h4 : dy ≤ 40000) (h5 : 1 ≤ S) (h6 : S ≤ 1048576) :
    Calls Try.prog 39 #[.int .i64 dx, .int .i64 dy, .int .i64 S] w fun e w' => e = .returned (.tuple #[.int .i64 (Ter.shF dx dy S), .int .i64 0]) ∧ w = w' := by
  have hq := Lib.hid (Ter.rnd_small (a := 50 * (dx - dy)) (b := max dx (-dx) + max dy (-dy) + 4 * S) (by omega) (by omega) (by omega))
  unfold Ter.shF
  go_enter Try.func39, Try.ntmps39
  go_wp2_with fail
  all_goals
    refine (round_ok _ _ _ ⟨by omega, by omega⟩ ⟨by omega, by omega⟩ (by omega) (by omega)).mono ?_
    rintro e w' ⟨rfl, rfl⟩
    have hq' := hq.out
    clear hq
    first
    | (have ex : max dx (-dx) = dx := by omega); rw [ex] at hq'; have EX := Lib.hid ex; clear ex
    | (have ex : max dx (-dx) = -dx := by omega); rw [ex] at hq'; have EX := Lib.hid ex; clear ex
    first
    | (have ey : max dy (-dy) = dy := by omega); rw [ey] at hq'; have EY := Lib.hid ey; clear ey
    | (have ey : max dy (-dy) = -dy := by omega); rw [ey] at hq'; have EY := Lib.hid ey; clear ey
    obtain ⟨q1, q2⟩ := hq'
    go_wp2
    go_ret2
    exact ⟨ret_two (by rw [EX.out, EY.out]) rfl, rfl⟩
set_option maxHeartbeats 400000 in
theorem rabs_any (d : Int) (w : World) (h1 : -40000 ≤ d) (h2 : d ≤ 40000) :
    Calls Try.prog 41 #[.int .i64 d] w fun e w' => e = .returned (.int .i64 (max d (-d))) ∧ w' = w := by
  go_enter Try.func41, Try.ntmps41
  go_wp2
  all_goals
    go_ret
    exact ⟨ret_int (by omega), rfl⟩
end Go.Proofs.Ythgdmcjahldihaa
