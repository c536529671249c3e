/- GeomSplits returns true for all four points: the walk. -/
import Derived.Test.YtkojdifgmppfpaaGeoN
namespace Go.Proofs.Ytkojdifgmppfpaa
open Go.RowKit
open Num Geo
set_option linter.unusedVariables false
theorem tw_low {ax ay bx by_ cx cy : Int} (ha : Nr ax ay) (hb : Nr bx by_) (hc : Nr cx cy) : -70368744177664 ≤ tw ax ay bx by_ cx cy ∧ tw ax ay bx by_ cx cy ≤ 70368744177664 := by
  unfold Nr at ha hb hc
  have p1 := prod_in (a := bx - ax) (b := cy - ay) (by omega) (by omega)
  have p2 := prod_in (a := by_ - ay) (b := cx - ax) (by omega) (by omega)
  unfold tw
  generalize (bx - ax) * (cy - ay) = p at *
  generalize (by_ - ay) * (cx - ax) = q at *
  clear ha hb hc
  omega
theorem split_sum (ax ay bx by_ cx cy dx dy : Int) : tw dx dy ax ay bx by_ + tw dx dy bx by_ cx cy + tw dx dy cx cy ax ay = tw ax ay bx by_ cx cy := by unfold tw; grind
theorem split_a (ax ay bx by_ cx cy : Int) : tw bx by_ ax ay cx cy = -tw ax ay bx by_ cx cy := by unfold tw; grind
theorem split_b (ax ay bx by_ cx cy : Int) : tw ax ay cx cy bx by_ = -tw ax ay bx by_ cx cy := by unfold tw; grind
theorem split_c (ax ay bx by_ cx cy : Int) : tw bx by_ cx cy ax ay = tw ax ay bx by_ cx cy := by unfold tw; grind
theorem twF_near {ax ay bx by_ cx cy : Int} (ha : Nr ax ay) (hb : Nr bx by_) (hc : Nr cx cy) : twF ax ay bx by_ cx cy = tw ax ay bx by_ cx cy := if_pos ((near3_iff _ _ _ _ _ _).mpr ⟨ha, hb, hc⟩)
set_option maxRecDepth 100000 in
set_option maxHeartbeats 4000000 in
theorem splits_off (ax ay bx by_ cx cy dx dy : Int) (w : World) (hn : nearL [(ax, ay), (bx, by_), (cx, cy), (dx, dy)] = false) : Calls Try.prog 8 #[.agg #[.int .i64 ax, .int .i64 ay], .agg #[.int .i64 bx, .int .i64 by_], .agg #[.int .i64 cx, .int .i64 cy], .agg #[.int .i64 dx, .int .i64 dy]] w fun e w' => e = .returned (.bool true) ∧ Below w.heap.size w w' := by
  go_enter Try.func8, Try.ntmps8
  go_wp2_with fail
  refine (rnear4 w ax ay bx by_ cx cy dx dy).mono ?_
  rintro e w1 ⟨rfl, c0, c1, c2, c3, c4, c5, c6, c7, hg⟩
  rw [hn]
  have G := Lib.hid hg
  clear hg c0 c1 c2 c3 c4 c5 c6 c7
  go_wp2_with fail
  refine (awake08 _).mono ?_
  rintro e w2 ⟨rfl, hb⟩
  have G2 := Lib.hid (below_on G.out hb)
  clear hb G
  go_wp2
  go_ret
  exact ⟨rfl, G2.out⟩
set_option maxRecDepth 100000 in
set_option maxHeartbeats 4000000 in
theorem splits_in (ax ay bx by_ cx cy dx dy : Int) (w : World) (hn : nearL [(ax, ay), (bx, by_), (cx, cy), (dx, dy)] = true) : Calls Try.prog 8 #[.agg #[.int .i64 ax, .int .i64 ay], .agg #[.int .i64 bx, .int .i64 by_], .agg #[.int .i64 cx, .int .i64 cy], .agg #[.int .i64 dx, .int .i64 dy]] w fun e w' => e = .returned (.bool true) ∧ Below w.heap.size w w' := by
  obtain ⟨na, nb, nc, nd⟩ := (near4_iff _ _ _ _ _ _ _ _).mp hn
  have T0 := Lib.hid (Twice_any ax ay bx by_ cx cy)
  rw [twF_near na nb nc] at T0
  have T1 := Lib.hid (Twice_any dx dy ax ay bx by_)
  rw [twF_near nd na nb] at T1
  have T2 := Lib.hid (Twice_any dx dy bx by_ cx cy)
  rw [twF_near nd nb nc] at T2
  have T3 := Lib.hid (Twice_any dx dy cx cy ax ay)
  rw [twF_near nd nc na] at T3
  have T4 := Lib.hid (Twice_any bx by_ ax ay cx cy)
  rw [twF_near nb na nc] at T4
  have T5 := Lib.hid (Twice_any ax ay cx cy bx by_)
  rw [twF_near na nc nb] at T5
  have T6 := Lib.hid (Twice_any bx by_ cx cy ax ay)
  rw [twF_near nb nc na] at T6
  rw [split_a ax ay bx by_ cx cy] at T4
  rw [split_b ax ay bx by_ cx cy] at T5
  rw [split_c ax ay bx by_ cx cy] at T6
  have es := split_sum ax ay bx by_ cx cy dx dy
  obtain ⟨l0, h0⟩ := tw_low na nb nc
  obtain ⟨l1, h1⟩ := tw_low nd na nb
  obtain ⟨l2, h2⟩ := tw_low nd nb nc
  obtain ⟨l3, h3⟩ := tw_low nd nc na
  clear na nb nc nd
  generalize tw ax ay bx by_ cx cy = t0 at *
  generalize tw dx dy ax ay bx by_ = t1 at *
  generalize tw dx dy bx by_ cx cy = t2 at *
  generalize tw dx dy cx cy ax ay = t3 at *
  have e1 : (t1 + t2 + t3 == t0) = true := by simpa using es
  have e2 : (-t0 == -t0) = true := by simp
  have e3 : (t0 == t0) = true := by simp
  clear es
  go_enter Try.func8, Try.ntmps8
  go_wp2_with fail
  refine (rnear4 w ax ay bx by_ cx cy dx dy).mono ?_
  rintro e w1 ⟨rfl, HB⟩
  rw [hn]
  clear hn
  obtain ⟨c0, c1, c2, c3, c4, c5, c6, c7, hg⟩ := id HB
  have HB := Lib.hid HB
  clear hg
  go_wp2_with fail
  refine (T0.out _).mono ?_
  rintro e w2 ⟨rfl, hb⟩
  have HB2 := Lib.hid (HB.out.later hb)
  clear HB hb c0 c1 c2 c3 c4 c5 c6 c7
  obtain ⟨c0, c1, c2, c3, c4, c5, c6, c7, hg⟩ := HB2.out
  have G := Lib.hid hg
  clear hg HB2
  go_wp2_with fail
  have L0 := fun m : Later w2 => m.cell c0
  have L1 := fun m : Later w2 => m.cell c1
  have L2 := fun m : Later w2 => m.cell c2
  have L3 := fun m : Later w2 => m.cell c3
  have L4 := fun m : Later w2 => m.cell c4
  have L5 := fun m : Later w2 => m.cell c5
  have L6 := fun m : Later w2 => m.cell c6
  have L7 := fun m : Later w2 => m.cell c7
  refine region_later (by kernel_rfl) (by kernel_rfl) ?_
  (go_big_quiet_want; go_big_quiet_op; go_big_quiet_on)
  (go_big_quiet_want; go_big_quiet_op; go_big_quiet_on)
  (go_big_quiet_want; go_big_quiet_op; go_big_quiet_on)
  (go_big_quiet_want; go_big_quiet_op; go_big_quiet_call (exact later_of (T1.out _)))
  (go_big_quiet_want; go_big_quiet_op; go_big_quiet_on)
  (go_big_quiet_want; go_big_quiet_op; go_big_quiet_on)
  (go_big_quiet_want; go_big_quiet_op; go_big_quiet_on)
  (go_big_quiet_want; go_big_quiet_op; go_big_quiet_call (exact later_of (T2.out _)))
  (go_big_quiet_want; go_big_quiet_op; go_big_quiet_on)
  (go_big_quiet_want; go_big_quiet_op; go_big_quiet_on)
  (go_big_quiet_want; go_big_quiet_op; go_big_quiet_on)
  (go_big_quiet_want; go_big_quiet_op; go_big_quiet_on)
  (go_big_quiet_want; go_big_quiet_op; go_big_quiet_call (exact later_of (T3.out _)))
  (go_big_quiet_want; go_big_quiet_op; go_big_quiet_on)
  (go_big_quiet_want; go_big_quiet_op; go_big_quiet_on)
  (go_big_quiet_want; go_big_quiet_op; go_big_quiet_on)
  (go_big_quiet_want; go_big_quiet_op; go_big_quiet_on)
  (go_big_quiet_want; go_big_quiet_op; go_big_quiet_on)
  (go_big_quiet_want; go_big_quiet_op; go_big_quiet_on)
  (go_big_quiet_want; go_big_quiet_op; go_big_quiet_on)
  (go_big_quiet_want; go_big_quiet_op; go_big_quiet_call (exact later_of (T4.out _)))
  (go_big_quiet_want; go_big_quiet_op; go_big_quiet_on)
  (go_big_quiet_want; go_big_quiet_op; go_big_quiet_on)
  (go_big_quiet_want; go_big_quiet_op; go_big_quiet_on)
  (go_big_quiet_want; go_big_quiet_op; go_big_quiet_on)
  (go_big_quiet_want; go_big_quiet_op; go_big_quiet_on)
  (go_big_quiet_want; go_big_quiet_op; go_big_quiet_on)
  (go_big_quiet_want; go_big_quiet_op; go_big_quiet_on)
  (go_big_quiet_want; go_big_quiet_op; go_big_quiet_on)
  (go_big_quiet_want; go_big_quiet_op; go_big_quiet_call (exact later_of (T5.out _)))
  (go_big_quiet_want; go_big_quiet_op; go_big_quiet_on)
  (go_big_quiet_want; go_big_quiet_op; go_big_quiet_on)
  (go_big_quiet_want; go_big_quiet_op; go_big_quiet_on)
  (go_big_quiet_want; go_big_quiet_op; go_big_quiet_on)
  (go_big_quiet_want; go_big_quiet_op; go_big_quiet_on)
  (go_big_quiet_want; go_big_quiet_op; go_big_quiet_on)
  (go_big_quiet_want; go_big_quiet_op; go_big_quiet_on)
  (go_big_quiet_want; go_big_quiet_op; go_big_quiet_on)
  (go_big_quiet_want; go_big_quiet_op; go_big_quiet_call (exact later_of (T6.out _)))
  (go_big_quiet_want; go_big_quiet_op; go_big_quiet_on)
  (go_big_quiet_want; go_big_quiet_op; go_big_quiet_on)
  (go_big_quiet_want; go_big_quiet_op; go_big_quiet_on)
  (go_big_quiet_want; go_big_quiet_op; go_big_quiet_on)
  (go_big_quiet_want; go_big_quiet_op; go_big_quiet_call (exact later_of (awake08 _)))
  (go_big_quiet_want; go_big_quiet_op; go_big_quiet_on)
  (go_big_quiet_want; go_big_quiet_op; go_big_quiet_on)
  refine wpQuiet_nil ?_
  refine later_end ?_
  intro m
  have F2 : Hid (Below w.heap.size w m.wd) := Lib.hid (below_on G.out m.below)
  clear L0 L1 L2 L3 L4 L5 L6 L7 c0 c1 c2 c3 c4 c5 c6 c7
  generalize m.wd = v at *
  go_wp2
  go_ret
  exact ⟨rfl, F2.out⟩
theorem splits_any (ax ay bx by_ cx cy dx dy : Int) (w : World) : Calls Try.prog 8 #[.agg #[.int .i64 ax, .int .i64 ay], .agg #[.int .i64 bx, .int .i64 by_], .agg #[.int .i64 cx, .int .i64 cy], .agg #[.int .i64 dx, .int .i64 dy]] w fun e w' => e = .returned (.bool true) ∧ Below w.heap.size w w' := by
  cases h : nearL [(ax, ay), (bx, by_), (cx, cy), (dx, dy)]
  · exact splits_off ax ay bx by_ cx cy dx dy w h
  · exact splits_in ax ay bx by_ cx cy dx dy w h
end Go.Proofs.Ytkojdifgmppfpaa
