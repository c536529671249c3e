/- The contracts of cut.AtX, AtY and of the reference's turn, AtX, AtY. -/
import Derived.Test.YtpdiojndfckmfaaCutA
import Derived.Test.YtpdiojndfckmfaaCutBase
import Derived.Test.YtpdiojndfckmfaaGeoC
import Derived.Test.YtpdiojndfckmfaaNumA
import Derived.Test.YtpdiojndfckmfaaNumB
namespace Go.Proofs.Ytpdiojndfckmfaa
open Go.RowKit
open Num Geo Cut
set_option linter.unusedVariables false
set_option maxHeartbeats 2000000 in
theorem AtX_any (ax ay bx by_ v : Int) (w : World) (hv : I64 v) :
    Calls Try.prog 15 #[.agg #[.int .i64 ax, .int .i64 ay], .agg #[.int .i64 bx, .int .i64 by_], .int .i64 v] w fun e w' => e = .returned (.tuple #[.int .i64 (atV ax ay bx by_ v), .int .i64 (atE ax ay bx by_ v)]) ∧ Below w.heap.size w w' := by
  have HI := Lib.hid (near2_iff ax ay bx by_)
  have HC := Lib.hid (at_cases ax ay bx by_ v)
  have HR : Hid (atR ax ay bx by_ v = ay + rnd ((by_ - ay) * (v - ax)) (bx - ax)) := Lib.hid rfl
  generalize atV ax ay bx by_ v = V at *
  generalize atE ax ay bx by_ v = E at *
  unfold I64 at hv
  obtain ⟨hv1, hv2⟩ := hv
  go_enter Try.func15, Try.ntmps15
  go_wp2_with fail
  refine (acc2 w ax ay bx by_).mono ?_
  rintro e w1 ⟨rfl, hb⟩
  have HB := Lib.hid hb
  obtain ⟨c0, c1, c2, c3, hg⟩ := hb
  have G := Lib.hid hg
  clear hg
  rcases HC.out with h | h | h | h | h | h
  · obtain ⟨hn, rfl, rfl⟩ := h
    rw [hn]
    go_wp2
    go_ret2
    exact ⟨rfl, G.out⟩
  · obtain ⟨hn, rfl, rfl, rfl⟩ := h
    rw [hn]
    go_wp2
    go_ret2
    exact ⟨rfl, G.out⟩
  · obtain ⟨hn, hne, h1, h2, rfl, rfl⟩ := h
    have hne' : (ax == bx) = false := by simpa using hne
    have d1 : decide (v < min ax bx) = true := by simp; omega
    rw [hn]
    go_wp2
    go_ret2
    exact ⟨rfl, G.out⟩
  · obtain ⟨hn, hne, h1, h2, rfl, rfl⟩ := h
    have hne' : (ax == bx) = false := by simpa using hne
    have d1 : decide (v < min ax bx) = false := by simp; omega
    have d2 : decide (max ax bx < v) = true := by simp; omega
    rw [hn]
    go_wp2
    go_ret2
    exact ⟨rfl, G.out⟩
  all_goals
    obtain ⟨hn, hlt, h1, h2, rfl, rfl⟩ := h
    have hne' : (ax == bx) = false := by simp; omega
    have d1 : decide (v < min ax bx) = false := by simp; omega
    have d2 : decide (max ax bx < v) = false := by simp; omega
    obtain ⟨na, nb⟩ := HI.out.1 hn
    unfold Nr at na nb
    rw [hn]
    clear hn
    have p1 := prod_in (a := by_ - ay) (b := v - ax) (by omega) (by omega)
    have RB := rnd_bound (n := by_ - ay) (k := v - ax) (d := bx - ax) (M := 4194304) (by omega) (by omega) (by omega)
    go_wp2_with fail
    refine (round_ok ((by_ - ay) * (v - ax)) (bx - ax) _ (by unfold I64; omega) (by unfold I64; omega) (by omega) (by omega)).mono ?_
    rintro e w2 ⟨rfl, rfl⟩
    generalize (by_ - ay) * (v - ax) = pr at *
    generalize rnd pr (bx - ax) = q at *
    go_wp2
    go_ret2
    exact ⟨ret_two HR.out.symm rfl, G.out⟩
set_option maxHeartbeats 2000000 in
theorem rAtX_any (ax ay bx by_ v : Int) (w : World) (hv : I64 v) :
    Calls Try.prog 16 #[.agg #[.int .i64 ax, .int .i64 ay], .agg #[.int .i64 bx, .int .i64 by_], .int .i64 v] w fun e w' => e = .returned (.tuple #[.int .i64 (atV ax ay bx by_ v), .int .i64 (atE ax ay bx by_ v)]) ∧ Below w.heap.size w w' := by
  have HI := Lib.hid (near2_iff ax ay bx by_)
  have HC := Lib.hid (at_cases ax ay bx by_ v)
  have HR : Hid (atR ax ay bx by_ v = ay + rnd ((by_ - ay) * (v - ax)) (bx - ax)) := Lib.hid rfl
  generalize atV ax ay bx by_ v = V at *
  generalize atE ax ay bx by_ v = E at *
  unfold I64 at hv
  obtain ⟨hv1, hv2⟩ := hv
  go_enter Try.func16, Try.ntmps16
  go_wp2_with fail
  refine (rnear2 w ax ay bx by_).mono ?_
  rintro e w1 ⟨rfl, hb⟩
  have HB := Lib.hid hb
  obtain ⟨c0, c1, c2, c3, hg⟩ := hb
  have G := Lib.hid hg
  clear hg
  rcases HC.out with h | h | h | h | h | h
  · obtain ⟨hn, rfl, rfl⟩ := h
    rw [hn]
    go_wp2
    go_ret2
    exact ⟨rfl, G.out⟩
  · obtain ⟨hn, rfl, rfl, rfl⟩ := h
    rw [hn]
    go_wp2
    go_ret2
    exact ⟨rfl, G.out⟩
  · obtain ⟨hn, hne, h1, h2, rfl, rfl⟩ := h
    have hne' : (ax == bx) = false := by simpa using hne
    have d1 : decide (v < ax) = true := by simpa using h1
    have d2 : decide (v < bx) = true := by simpa using h2
    rw [hn]
    go_wp2
    go_ret2
    exact ⟨rfl, G.out⟩
  · obtain ⟨hn, hne, h1, h2, rfl, rfl⟩ := h
    have hne' : (ax == bx) = false := by simpa using hne
    have d1 : decide (v < ax) = false := by simp; omega
    have d2 : decide (v < bx) = false := by simp; omega
    have d3 : decide (ax < v) = true := by simpa using h1
    have d4 : decide (bx < v) = true := by simpa using h2
    rw [hn]
    go_wp2
    go_ret2
    exact ⟨rfl, G.out⟩
  · obtain ⟨hn, hlt, h1, h2, rfl, rfl⟩ := h
    have hne' : (ax == bx) = false := by simp; omega
    have d1 : decide (v < ax) = false := by simp; omega
    have d4 : decide (bx < v) = false := by simp; omega
    obtain ⟨na, nb⟩ := HI.out.1 hn
    unfold Nr at na nb
    rw [hn]
    clear hn
    have p1 := prod_in (a := by_ - ay) (b := v - ax) (by omega) (by omega)
    have RB := rnd_bound (n := by_ - ay) (k := v - ax) (d := bx - ax) (M := 4194304) (by omega) (by omega) (by omega)
    go_wp2_with fail
    all_goals
      refine (rround_any ((by_ - ay) * (v - ax)) (bx - ax) _ (by unfold I64; omega) (by unfold I64; omega)).mono ?_
      rintro e w2 ⟨rfl, n, rfl⟩
      have G2 := Lib.hid (below_dn G.out n)
      generalize (by_ - ay) * (v - ax) = pr at *
      have hq : rndq pr (bx - ax) = rnd pr (bx - ax) := by unfold rndq; rw [if_pos (chk_zero (by omega) (by omega))]
      rw [hq]
      generalize rnd pr (bx - ax) = q at *
      go_wp2
      go_ret2
      exact ⟨ret_two HR.out.symm rfl, G2.out⟩
  · obtain ⟨hn, hlt, h1, h2, rfl, rfl⟩ := h
    have hne' : (ax == bx) = false := by simp; omega
    have d2 : decide (v < bx) = false := by simp; omega
    have d3 : decide (ax < v) = false := by simp; omega
    obtain ⟨na, nb⟩ := HI.out.1 hn
    unfold Nr at na nb
    rw [hn]
    clear hn
    have p1 := prod_in (a := by_ - ay) (b := v - ax) (by omega) (by omega)
    have RB := rnd_bound (n := by_ - ay) (k := v - ax) (d := bx - ax) (M := 4194304) (by omega) (by omega) (by omega)
    go_wp2_with fail
    all_goals
      refine (rround_any ((by_ - ay) * (v - ax)) (bx - ax) _ (by unfold I64; omega) (by unfold I64; omega)).mono ?_
      rintro e w2 ⟨rfl, n, rfl⟩
      have G2 := Lib.hid (below_dn G.out n)
      generalize (by_ - ay) * (v - ax) = pr at *
      have hq : rndq pr (bx - ax) = rnd pr (bx - ax) := by unfold rndq; rw [if_pos (chk_zero (by omega) (by omega))]
      rw [hq]
      generalize rnd pr (bx - ax) = q at *
      go_wp2
      go_ret2
      exact ⟨ret_two HR.out.symm rfl, G2.out⟩
set_option maxHeartbeats 1000000 in
theorem rturn_any (ax ay : Int) (w : World) :
    Calls Try.prog 41 #[.agg #[.int .i64 ax, .int .i64 ay]] w fun e w' => e = .returned (.agg #[.int .i64 ay, .int .i64 ax]) ∧ Below w.heap.size w w' := by
  go_enter Try.func41, Try.ntmps41
  go_wp2
  exact bodyPost_ret (v := .agg #[.int .i64 ay, .int .i64 ax]) (by simp [results, Try.results41, go_sem]) rfl ⟨rfl, by go_grown⟩
set_option maxHeartbeats 1000000 in
theorem AtY_any (ax ay bx by_ v : Int) (w : World) (hv : I64 v) :
    Calls Try.prog 17 #[.agg #[.int .i64 ax, .int .i64 ay], .agg #[.int .i64 bx, .int .i64 by_], .int .i64 v] w fun e w' => e = .returned (.tuple #[.int .i64 (atV ay ax by_ bx v), .int .i64 (atE ay ax by_ bx v)]) ∧ Below w.heap.size w w' := by
  go_enter Try.func17, Try.ntmps17
  go_wp2_with fail
  refine (AtX_any ay ax by_ bx v _ hv).mono ?_
  rintro e w1 ⟨rfl, hb⟩
  have G := Lib.hid (below_on (below_on (below_al w (.cells #[.int .i64 ax, .int .i64 ay] 23)) (below_al _ (.cells #[.int .i64 bx, .int .i64 by_] 23))) hb)
  clear hb
  go_wp2
  go_ret2
  exact ⟨rfl, G.out⟩
set_option maxHeartbeats 1000000 in
theorem rAtY_any (ax ay bx by_ v : Int) (w : World) (hv : I64 v) :
    Calls Try.prog 18 #[.agg #[.int .i64 ax, .int .i64 ay], .agg #[.int .i64 bx, .int .i64 by_], .int .i64 v] w fun e w' => e = .returned (.tuple #[.int .i64 (atV ay ax by_ bx v), .int .i64 (atE ay ax by_ bx v)]) ∧ Below w.heap.size w w' := by
  have T1 := Lib.hid (fun v => rturn_any ax ay v)
  have T2 := Lib.hid (fun v => rturn_any bx by_ v)
  have AT := Lib.hid (fun u => rAtX_any ay ax by_ bx v u hv)
  go_enter Try.func18, Try.ntmps18
  go_wp2_with fail
  obtain ⟨c0, c1, c2, c3, hg⟩ := B2_has w ax ay bx by_
  have G := Lib.hid hg
  clear hg
  obtain ⟨w1, hw⟩ : ∃ w1, B2 w ax ay bx by_ = w1 := ⟨_, rfl⟩
  rw [hw] at c0 c1 c2 c3 G
  unfold B2 at hw
  rw [hw]
  clear hw
  have L0 := fun k : Later w1 => k.cell c0
  have L1 := fun k : Later w1 => k.cell c1
  have L2 := fun k : Later w1 => k.cell c2
  have L3 := fun k : Later w1 => k.cell c3
  refine region_later (by kernel_rfl) (by kernel_rfl) ?_
  (go_big_quiet_want; go_big_quiet_op; go_big_quiet_on)
  (go_big_quiet_want; go_big_quiet_op; go_big_quiet_call (exact later_of (T1.out _)))
  (go_big_quiet_want; go_big_quiet_op; go_big_quiet_on)
  (go_big_quiet_want; go_big_quiet_op; go_big_quiet_call (exact later_of (T2.out _)))
  (go_big_quiet_want; go_big_quiet_op; go_big_quiet_on)
  (go_big_quiet_want; go_big_quiet_op; go_big_quiet_call (exact later_of (AT.out _)))
  (go_big_quiet_want; go_big_quiet_op; go_big_quiet_on)
  (go_big_quiet_want; go_big_quiet_op; go_big_quiet_on)
  (go_big_quiet_want; go_big_quiet_op; go_big_quiet_on)
  (go_big_quiet_want; go_big_quiet_op; go_big_quiet_on)
  refine wpQuiet_nil ?_
  refine later_end ?_
  intro k
  have G2 := Lib.hid (below_on G.out k.below)
  clear G L0 L1 L2 L3 c0 c1 c2 c3
  go_wp2
  go_ret2
  exact ⟨rfl, G2.out⟩
end Go.Proofs.Ytpdiojndfckmfaa
