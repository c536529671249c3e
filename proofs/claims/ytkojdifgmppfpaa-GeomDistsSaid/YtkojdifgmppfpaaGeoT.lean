/- The contract of the reference's Dist: off and at the ends. -/
import Derived.Test.YtkojdifgmppfpaaGeoS
namespace Go.Proofs.Ytkojdifgmppfpaa
open Go.RowKit
open Num Geo
set_option linter.unusedVariables false
theorem rnearD (w : World) (ax ay bx by_ cx cy : Int) : Calls Try.prog 22 #[.slice (some ⟨w.heap.size + 1 + 1 + 1 + 1, 0, none⟩) 3 3] (E3 w ax ay bx by_ cx cy) fun e w' => e = .returned (.bool (nearL [(ax, ay), (bx, by_), (cx, cy)])) ∧ HasD w w' ax ay bx by_ cx cy :=
  (rnear_any [(ax, ay), (bx, by_), (cx, cy)] _ 3 _ (by simp) (E3_pts w ax ay bx by_ cx cy)).mono fun e w' ⟨h1, h2⟩ => ⟨h1, ((D3_has w ax ay bx by_ cx cy).later (below_al _ _)).later h2⟩
set_option maxHeartbeats 2000000 in
theorem rDist_off (ax ay bx by_ cx cy : Int) (w : World) (h : nearL [(ax, ay), (bx, by_), (cx, cy)] = false) :
    Calls Try.prog 25 #[.agg #[.int .i64 ax, .int .i64 ay], .agg #[.int .i64 bx, .int .i64 by_], .agg #[.int .i64 cx, .int .i64 cy]] w (DistOut 0 0 w) := by
  have H1 := Lib.hid h
  clear h
  go_enter Try.func25, Try.ntmps25
  go_wp2_with fail
  refine (rnearD w ax ay bx by_ cx cy).mono ?_
  rintro e w1 ⟨rfl, hb⟩
  rw [H1.out]
  have HB := Lib.hid hb
  obtain ⟨⟨-, -, -, -, -, -, -⟩, ⟨d0, d1, y0⟩⟩ := hb
  go_wp2
  obtain ⟨⟨k0, k1, k2⟩, k3⟩ := dist_end HB.out 0 0
  exact bodyPost_ret (v := .agg #[.int .i64 0, .int .i64 0]) (by simp [results, Try.results25, go_sem, k0, k1]) rfl ⟨rfl, k3⟩
set_option maxRecDepth 100000 in
set_option maxHeartbeats 2000000 in
theorem rDist_lo (ax ay bx by_ cx cy : Int) (w : World) (h : nearL [(ax, ay), (bx, by_), (cx, cy)] = true) (h1 : al ax ay bx by_ cx cy ≤ 0) :
    Calls Try.prog 25 #[.agg #[.int .i64 ax, .int .i64 ay], .agg #[.int .i64 bx, .int .i64 by_], .agg #[.int .i64 cx, .int .i64 cy]] w (DistOut (sq ax ay cx cy) 1 w) := by
  have H1 := Lib.hid h
  have hn := (near3_iff ax ay bx by_ cx cy).1 h
  have SQ : ∀ v, Calls Try.prog 35 #[.agg #[.int .i64 ax, .int .i64 ay], .agg #[.int .i64 bx, .int .i64 by_], .agg #[.int .i64 ax, .int .i64 ay], .agg #[.int .i64 bx, .int .i64 by_]] v fun e w' => e = .returned (.int .i64 (sq ax ay bx by_)) ∧ Below v.heap.size v w' := fun v => rdot_any ax ay bx by_ ax ay bx by_ v hn.1 hn.2.1 hn.1 hn.2.1
  have AL : ∀ v, Calls Try.prog 35 #[.agg #[.int .i64 ax, .int .i64 ay], .agg #[.int .i64 bx, .int .i64 by_], .agg #[.int .i64 ax, .int .i64 ay], .agg #[.int .i64 cx, .int .i64 cy]] v fun e w' => e = .returned (.int .i64 (al ax ay bx by_ cx cy)) ∧ Below v.heap.size v w' := fun v => rdot_any ax ay bx by_ ax ay cx cy v hn.1 hn.2.1 hn.1 hn.2.2
  have SP : ∀ v, Calls Try.prog 35 #[.agg #[.int .i64 ax, .int .i64 ay], .agg #[.int .i64 cx, .int .i64 cy], .agg #[.int .i64 ax, .int .i64 ay], .agg #[.int .i64 cx, .int .i64 cy]] v fun e w' => e = .returned (.int .i64 (sq ax ay cx cy)) ∧ Below v.heap.size v w' := fun v => rdot_any ax ay cx cy ax ay cx cy v hn.1 hn.2.2 hn.1 hn.2.2
  have SQ := Lib.hid SQ
  have AL := Lib.hid AL
  have SP := Lib.hid SP
  generalize al ax ay bx by_ cx cy = s at *
  generalize sq ax ay bx by_ = L at *
  generalize sq ax ay cx cy = q1 at *
  clear h hn
  go_enter Try.func25, Try.ntmps25
  go_wp2_with fail
  refine (rnearD w ax ay bx by_ cx cy).mono ?_
  rintro e w1 ⟨rfl, HB⟩
  rw [H1.out]
  have HB := Lib.hid HB
  obtain ⟨⟨c0, c1, c2, c3, c4, c5, -⟩, ⟨d0, d1, y0⟩⟩ := HB.out
  have L0 := fun k : Later w1 => k.cell c0
  have L1 := fun k : Later w1 => k.cell c1
  have L2 := fun k : Later w1 => k.cell c2
  have L3 := fun k : Later w1 => k.cell c3
  have L4 := fun k : Later w1 => k.cell c4
  have L5 := fun k : Later w1 => k.cell c5
  go_wp2_with fail
  refine region_later (by kernel_rfl) (by kernel_rfl) ?_
  (go_big_quiet_want; go_big_quiet_op; go_big_quiet_on)
  (go_big_quiet_want; go_big_quiet_op; go_big_quiet_on)
  (go_big_quiet_want; go_big_quiet_op; go_big_quiet_on)
  (go_big_quiet_want; go_big_quiet_op; go_big_quiet_on)
  (go_big_quiet_want; go_big_quiet_op; go_big_quiet_call (exact later_of (SQ.out _)))
  (go_big_quiet_want; go_big_quiet_op; go_big_quiet_on)
  (go_big_quiet_want; go_big_quiet_op; go_big_quiet_on)
  (go_big_quiet_want; go_big_quiet_op; go_big_quiet_on)
  (go_big_quiet_want; go_big_quiet_op; go_big_quiet_on)
  (go_big_quiet_want; go_big_quiet_op; go_big_quiet_call (exact later_of (AL.out _)))
  (go_big_quiet_want; go_big_quiet_op; go_big_quiet_on)
  (go_big_quiet_want; go_big_quiet_op; go_big_quiet_on)
  refine wpQuiet_nil ?_
  refine later_end ?_
  intro k
  have HC := Lib.hid (HB.out.later k.below)
  clear HB L0 L1 L2 L3 L4 L5 c0 c1 c2 c3 c4 c5 d0 d1 y0
  generalize k.wd = u at *
  clear k
  obtain ⟨⟨c0, c1, c2, c3, c4, c5, -⟩, ⟨d0, d1, y0⟩⟩ := HC.out
  go_wp2_with fail
  refine (SP.out _).mono ?_
  rintro e w3 ⟨rfl, hb3⟩
  have HB3 := Lib.hid (HC.out.later hb3)
  clear HC hb3 c0 c1 c2 c3 c4 c5 d0 d1 y0
  obtain ⟨⟨c0, c1, c2, c3, c4, c5, -⟩, ⟨d0, d1, y0⟩⟩ := HB3.out
  go_wp2
  obtain ⟨⟨k0, k1, k2⟩, k3⟩ := dist_end HB3.out q1 1
  exact bodyPost_ret (v := .agg #[.int .i64 q1, .int .i64 1]) (by simp [results, Try.results25, go_sem, k0, k1]) rfl ⟨rfl, k3⟩
set_option maxRecDepth 100000 in
set_option maxHeartbeats 2000000 in
theorem rDist_hi (ax ay bx by_ cx cy : Int) (w : World) (h : nearL [(ax, ay), (bx, by_), (cx, cy)] = true) (h1 : 0 < al ax ay bx by_ cx cy) (h2 : sq ax ay bx by_ ≤ al ax ay bx by_ cx cy) :
    Calls Try.prog 25 #[.agg #[.int .i64 ax, .int .i64 ay], .agg #[.int .i64 bx, .int .i64 by_], .agg #[.int .i64 cx, .int .i64 cy]] w (DistOut (sq bx by_ cx cy) 1 w) := by
  have H1 := Lib.hid h
  have hn := (near3_iff ax ay bx by_ cx cy).1 h
  have SQ : ∀ v, Calls Try.prog 35 #[.agg #[.int .i64 ax, .int .i64 ay], .agg #[.int .i64 bx, .int .i64 by_], .agg #[.int .i64 ax, .int .i64 ay], .agg #[.int .i64 bx, .int .i64 by_]] v fun e w' => e = .returned (.int .i64 (sq ax ay bx by_)) ∧ Below v.heap.size v w' := fun v => rdot_any ax ay bx by_ ax ay bx by_ v hn.1 hn.2.1 hn.1 hn.2.1
  have AL : ∀ v, Calls Try.prog 35 #[.agg #[.int .i64 ax, .int .i64 ay], .agg #[.int .i64 bx, .int .i64 by_], .agg #[.int .i64 ax, .int .i64 ay], .agg #[.int .i64 cx, .int .i64 cy]] v fun e w' => e = .returned (.int .i64 (al ax ay bx by_ cx cy)) ∧ Below v.heap.size v w' := fun v => rdot_any ax ay bx by_ ax ay cx cy v hn.1 hn.2.1 hn.1 hn.2.2
  have SP : ∀ v, Calls Try.prog 35 #[.agg #[.int .i64 bx, .int .i64 by_], .agg #[.int .i64 cx, .int .i64 cy], .agg #[.int .i64 bx, .int .i64 by_], .agg #[.int .i64 cx, .int .i64 cy]] v fun e w' => e = .returned (.int .i64 (sq bx by_ cx cy)) ∧ Below v.heap.size v w' := fun v => rdot_any bx by_ cx cy bx by_ cx cy v hn.2.1 hn.2.2 hn.2.1 hn.2.2
  have SQ := Lib.hid SQ
  have AL := Lib.hid AL
  have SP := Lib.hid SP
  generalize al ax ay bx by_ cx cy = s at *
  generalize sq ax ay bx by_ = L at *
  generalize sq bx by_ cx cy = q1 at *
  clear h hn
  go_enter Try.func25, Try.ntmps25
  go_wp2_with fail
  refine (rnearD w ax ay bx by_ cx cy).mono ?_
  rintro e w1 ⟨rfl, HB⟩
  rw [H1.out]
  have HB := Lib.hid HB
  obtain ⟨⟨c0, c1, c2, c3, c4, c5, -⟩, ⟨d0, d1, y0⟩⟩ := HB.out
  have L0 := fun k : Later w1 => k.cell c0
  have L1 := fun k : Later w1 => k.cell c1
  have L2 := fun k : Later w1 => k.cell c2
  have L3 := fun k : Later w1 => k.cell c3
  have L4 := fun k : Later w1 => k.cell c4
  have L5 := fun k : Later w1 => k.cell c5
  go_wp2_with fail
  refine region_later (by kernel_rfl) (by kernel_rfl) ?_
  (go_big_quiet_want; go_big_quiet_op; go_big_quiet_on)
  (go_big_quiet_want; go_big_quiet_op; go_big_quiet_on)
  (go_big_quiet_want; go_big_quiet_op; go_big_quiet_on)
  (go_big_quiet_want; go_big_quiet_op; go_big_quiet_on)
  (go_big_quiet_want; go_big_quiet_op; go_big_quiet_call (exact later_of (SQ.out _)))
  (go_big_quiet_want; go_big_quiet_op; go_big_quiet_on)
  (go_big_quiet_want; go_big_quiet_op; go_big_quiet_on)
  (go_big_quiet_want; go_big_quiet_op; go_big_quiet_on)
  (go_big_quiet_want; go_big_quiet_op; go_big_quiet_on)
  (go_big_quiet_want; go_big_quiet_op; go_big_quiet_call (exact later_of (AL.out _)))
  (go_big_quiet_want; go_big_quiet_op; go_big_quiet_on)
  (go_big_quiet_want; go_big_quiet_op; go_big_quiet_on)
  refine wpQuiet_nil ?_
  refine later_end ?_
  intro k
  have HC := Lib.hid (HB.out.later k.below)
  clear HB L0 L1 L2 L3 L4 L5 c0 c1 c2 c3 c4 c5 d0 d1 y0
  generalize k.wd = u at *
  clear k
  obtain ⟨⟨c0, c1, c2, c3, c4, c5, -⟩, ⟨d0, d1, y0⟩⟩ := HC.out
  go_wp2_with fail
  refine (SP.out _).mono ?_
  rintro e w3 ⟨rfl, hb3⟩
  have HB3 := Lib.hid (HC.out.later hb3)
  clear HC hb3 c0 c1 c2 c3 c4 c5 d0 d1 y0
  obtain ⟨⟨c0, c1, c2, c3, c4, c5, -⟩, ⟨d0, d1, y0⟩⟩ := HB3.out
  go_wp2
  obtain ⟨⟨k0, k1, k2⟩, k3⟩ := dist_end HB3.out q1 1
  exact bodyPost_ret (v := .agg #[.int .i64 q1, .int .i64 1]) (by simp [results, Try.results25, go_sem, k0, k1]) rfl ⟨rfl, k3⟩
end Go.Proofs.Ytkojdifgmppfpaa
