/- GeomOrder returns true for all four points: the walk. -/
import Derived.Test.YtkojdifgmppfpaaGeoN
import Derived.Test.YtkojdifgmppfpaaGeoF
import Derived.Test.YtkojdifgmppfpaaGeoEqual
import Derived.Deep.DeepCutAuto
namespace Go.Proofs.Ytkojdifgmppfpaa
open Go.RowKit
open Num Geo
set_option linter.unusedVariables false
def A4 (v : World) (ax ay bx by_ cx cy dx dy : Int) : World := v.alloc (.cells #[.int .i64 ax, .int .i64 ay, .int .i64 bx, .int .i64 by_, .int .i64 cx, .int .i64 cy, .int .i64 dx, .int .i64 dy] 23)
theorem A4_pts (w : World) (ax ay bx by_ cx cy dx dy : Int) : Pts (A4 w ax ay bx by_ cx cy dx dy) (A4 w ax ay bx by_ cx cy dx dy).heap.size (some ⟨w.heap.size, 0, none⟩) [(ax, ay), (bx, by_), (cx, cy), (dx, dy)] := fun _ => by
  refine ⟨_, _, rfl, ?_, ?_⟩
  · unfold A4; simp
  · intro j hj
    unfold A4
    match j, hj with
    | 0, _ => exact ⟨by simp, by simp⟩
    | 1, _ => exact ⟨by simp, by simp⟩
    | 2, _ => exact ⟨by simp, by simp⟩
    | 3, _ => exact ⟨by simp, by simp⟩
theorem rnear4' (v : World) (ax ay bx by_ cx cy dx dy : Int) : Calls Try.prog 22 #[.slice (some ⟨v.heap.size, 0, none⟩) 4 4] (A4 v ax ay bx by_ cx cy dx dy) fun e w' => e = .returned (.bool (nearL [(ax, ay), (bx, by_), (cx, cy), (dx, dy)])) ∧ Below v.heap.size v w' :=
  (rnear_any [(ax, ay), (bx, by_), (cx, cy), (dx, dy)] _ 4 _ (by simp) (A4_pts v ax ay bx by_ cx cy dx dy)).mono fun e w' ⟨h1, h2⟩ => ⟨h1, below_on (below_al _ _) h2⟩
set_option maxRecDepth 100000 in
set_option maxHeartbeats 4000000 in
theorem order_any (ox oy px py qx qy rx ry : Int) (w : World) : Calls Try.prog 5 #[.agg #[.int .i64 ox, .int .i64 oy], .agg #[.int .i64 px, .int .i64 py], .agg #[.int .i64 qx, .int .i64 qy], .agg #[.int .i64 rx, .int .i64 ry]] w fun e w' => e = .returned (.bool true) ∧ Below w.heap.size w w' := by
  have L1 := Lib.hid (Less_any ox oy px py qx qy)
  have R1 := Lib.hid (rLess_any ox oy px py qx qy)
  have LI := Lib.hid (Less_any ox oy px py px py)
  rw [ls_irr] at LI
  have L2 := Lib.hid (Less_any ox oy qx qy px py)
  have L3 := Lib.hid (Less_any ox oy qx qy rx ry)
  have L4 := Lib.hid (Less_any ox oy px py rx ry)
  have hA := Lib.hid (@ls_asym ox oy px py qx qy)
  have hT := Lib.hid (@ls_trans ox oy px py qx qy rx ry)
  have E1 := Lib.hid (equal_any ox oy px py qx qy)
  have E2 := Lib.hid (equal_any ox oy qx qy rx ry)
  have E3 := Lib.hid (equal_any ox oy px py rx ry)
  have hE := Lib.hid (@eqv_trans ox oy px py qx qy rx ry)
  generalize eqv ox oy px py qx qy = e1 at *
  generalize eqv ox oy qx qy rx ry = e2 at *
  generalize eqv ox oy px py rx ry = e3 at *
  generalize lsF ox oy px py qx qy = l1 at *
  generalize lsF ox oy qx qy px py = l2 at *
  generalize lsF ox oy qx qy rx ry = l3 at *
  generalize lsF ox oy px py rx ry = l4 at *
  go_enter Try.func5, Try.ntmps5
  go_wp2_with fail
  have HB := Lib.hid (B4_has w ox oy px py qx qy rx ry)
  unfold B4 at HB
  generalize (((w.alloc (.cells #[.int .i64 ox, .int .i64 oy] 23)).alloc (.cells #[.int .i64 px, .int .i64 py] 23)).alloc (.cells #[.int .i64 qx, .int .i64 qy] 23)).alloc (.cells #[.int .i64 rx, .int .i64 ry] 23) = w1 at *
  go_upto_region 1 with fail
  go_cut [35] (fun v wc => v = .bool false ∧ Hid (Has4 w wc ox oy px py qx qy rx ry))
  case first =>
    obtain ⟨c0, c1, c2, c3, c4, c5, c6, c7, hg⟩ := HB.out
    clear hg
    have M0 := fun m : Later w1 => m.cell c0
    have M1 := fun m : Later w1 => m.cell c1
    have M2 := fun m : Later w1 => m.cell c2
    have M3 := fun m : Later w1 => m.cell c3
    have M4 := fun m : Later w1 => m.cell c4
    have M5 := fun m : Later w1 => m.cell c5
    have M6 := fun m : Later w1 => m.cell c6
    have M7 := fun m : Later w1 => m.cell c7
    cases l1
    · refine region_later (by kernel_rfl) (by kernel_rfl) ?_
      (go_big_quiet_want; go_big_quiet_op; go_big_quiet_on)
      (go_big_quiet_want; go_big_quiet_op; go_big_quiet_on)
      (go_big_quiet_want; go_big_quiet_op; go_big_quiet_on)
      (go_big_quiet_want; go_big_quiet_op; go_big_quiet_call (exact later_of (L1.out _)))
      (go_big_quiet_want; go_big_quiet_op; go_big_quiet_on)
      (go_big_quiet_want; go_big_quiet_op; go_big_quiet_on)
      (go_big_quiet_want; go_big_quiet_op; go_big_quiet_on)
      (go_big_quiet_want; go_big_quiet_op; go_big_quiet_call (exact later_of (R1.out _)))
      (go_big_quiet_want; go_big_quiet_op; go_big_quiet_on)
      (go_big_quiet_want; go_big_quiet_op; go_big_quiet_on)
      (go_big_quiet_want; go_big_quiet_op; go_big_quiet_on)
      (go_big_quiet_want; go_big_quiet_op; go_big_quiet_on)
      (go_big_quiet_want; go_big_quiet_op; go_big_quiet_on)
      (go_big_quiet_want; go_big_quiet_op; go_big_quiet_call (exact later_of (LI.out _)))
      (go_big_quiet_want; go_big_quiet_op; go_big_quiet_on)
      (go_big_quiet_want; go_big_quiet_op; go_big_quiet_on)
      (go_big_quiet_want; go_big_quiet_op; go_big_quiet_on)
      (go_big_quiet_want; go_big_quiet_op; go_big_quiet_on)
      (go_big_quiet_want; go_big_quiet_op; go_big_quiet_on)
      (go_big_quiet_want; go_big_quiet_op; go_big_quiet_call (exact later_of (L1.out _)))
      (go_big_quiet_want; go_big_quiet_op; go_big_quiet_on)
      go_big_quiet_skip
      go_big_quiet_skip
      go_big_quiet_skip
      go_big_quiet_skip
      (go_big_quiet_want; go_big_quiet_op; go_big_quiet_on)
      (go_big_quiet_want; go_big_quiet_op; go_big_quiet_on)
      refine wpQuiet_nil ?_
      refine later_end ?_
      intro m
      go_wp2_with fail
      go_meet
      exact ⟨rfl, Lib.hid (HB.out.later m.below)⟩
    · obtain rfl : l2 = false := hA.out rfl
      refine region_later (by kernel_rfl) (by kernel_rfl) ?_
      (go_big_quiet_want; go_big_quiet_op; go_big_quiet_on)
      (go_big_quiet_want; go_big_quiet_op; go_big_quiet_on)
      (go_big_quiet_want; go_big_quiet_op; go_big_quiet_on)
      (go_big_quiet_want; go_big_quiet_op; go_big_quiet_call (exact later_of (L1.out _)))
      (go_big_quiet_want; go_big_quiet_op; go_big_quiet_on)
      (go_big_quiet_want; go_big_quiet_op; go_big_quiet_on)
      (go_big_quiet_want; go_big_quiet_op; go_big_quiet_on)
      (go_big_quiet_want; go_big_quiet_op; go_big_quiet_call (exact later_of (R1.out _)))
      (go_big_quiet_want; go_big_quiet_op; go_big_quiet_on)
      (go_big_quiet_want; go_big_quiet_op; go_big_quiet_on)
      (go_big_quiet_want; go_big_quiet_op; go_big_quiet_on)
      (go_big_quiet_want; go_big_quiet_op; go_big_quiet_on)
      (go_big_quiet_want; go_big_quiet_op; go_big_quiet_on)
      (go_big_quiet_want; go_big_quiet_op; go_big_quiet_call (exact later_of (LI.out _)))
      (go_big_quiet_want; go_big_quiet_op; go_big_quiet_on)
      (go_big_quiet_want; go_big_quiet_op; go_big_quiet_on)
      (go_big_quiet_want; go_big_quiet_op; go_big_quiet_on)
      (go_big_quiet_want; go_big_quiet_op; go_big_quiet_on)
      (go_big_quiet_want; go_big_quiet_op; go_big_quiet_on)
      (go_big_quiet_want; go_big_quiet_op; go_big_quiet_call (exact later_of (L1.out _)))
      (go_big_quiet_want; go_big_quiet_op; go_big_quiet_on)
      (go_big_quiet_want; go_big_quiet_op; go_big_quiet_on)
      (go_big_quiet_want; go_big_quiet_op; go_big_quiet_on)
      (go_big_quiet_want; go_big_quiet_op; go_big_quiet_on)
      (go_big_quiet_want; go_big_quiet_op; go_big_quiet_call (exact later_of (L2.out _)))
      (go_big_quiet_want; go_big_quiet_op; go_big_quiet_on)
      (go_big_quiet_want; go_big_quiet_op; go_big_quiet_on)
      refine wpQuiet_nil ?_
      refine later_end ?_
      intro m
      go_wp2_with fail
      go_meet
      exact ⟨rfl, Lib.hid (HB.out.later m.below)⟩
  case rest =>
  clear HB R1 LI L2 hA
  obtain ⟨rfl, HB⟩ := hcut
  generalize wc = w2 at *
  go_upto_region 3 with fail
  go_cut [52] (fun v wc => v = .bool false ∧ Hid (Has4 w wc ox oy px py qx qy rx ry))
  case first =>
    obtain ⟨c0, c1, c2, c3, c4, c5, c6, c7, hg⟩ := HB.out
    clear hg
    go_wp2_with fail
    refine (L1.out _).mono ?_
    rintro e w3 ⟨rfl, hb⟩
    have HC := Lib.hid (HB.out.later hb)
    clear HB hb c0 c1 c2 c3 c4 c5 c6 c7
    cases l1
    · go_wp2_with fail
      go_meet
      exact ⟨rfl, HC⟩
    · obtain ⟨c0, c1, c2, c3, c4, c5, c6, c7, hg⟩ := HC.out
      clear hg
      go_wp2_with fail
      refine (L3.out _).mono ?_
      rintro e w4 ⟨rfl, hb⟩
      have HD := Lib.hid (HC.out.later hb)
      clear HC hb c0 c1 c2 c3 c4 c5 c6 c7
      cases l3
      · go_wp2_with fail
        go_meet
        exact ⟨rfl, HD⟩
      · obtain rfl : l4 = true := by simpa using hT.out
        obtain ⟨c0, c1, c2, c3, c4, c5, c6, c7, hg⟩ := HD.out
        clear hg
        go_wp2_with fail
        refine (L4.out _).mono ?_
        rintro e w5 ⟨rfl, hb⟩
        have HE := Lib.hid (HD.out.later hb)
        clear HD hb c0 c1 c2 c3 c4 c5 c6 c7
        go_wp2_with fail
        go_meet
        exact ⟨rfl, HE⟩
  case rest =>
  clear HB L1 L3 L4 hT
  obtain ⟨rfl, HB⟩ := hcut
  generalize wc = w3 at *
  go_upto_region 5 with fail
  go_cut [74] (fun v wc => Hid (Has4 w wc ox oy px py qx qy rx ry) ∧ (v = .bool true ∨ (v = .bool false ∧ (e1 = true → e2 = true → e3 = true))))
  case first =>
    obtain ⟨c0, c1, c2, c3, c4, c5, c6, c7, hg⟩ := HB.out
    clear hg E1 E2 E3
    cases hp : eqP px py ox oy
    · cases hq : eqP qx qy ox oy
      · cases hr : eqP rx ry ox oy
        · have hEE := Lib.hid (fun hn => hE.out hn hp hq hr)
          clear hE
          rcases eqP_false hp with ip | ⟨rfl, ip⟩ <;> rcases eqP_false hq with iq | ⟨rfl, iq⟩ <;> rcases eqP_false hr with ir | ⟨rfl, ir⟩
          all_goals
            clear hp hq hr
            go_wp2_with fail
            refine (rnear4' _ _ _ _ _ _ _ _ _).mono ?_
            rintro e w4 ⟨rfl, hb⟩
            have HC := Lib.hid (HB.out.later hb)
            clear HB hb c0 c1 c2 c3 c4 c5 c6 c7
            have hEN := hEE.out
            clear hEE
            revert hEN
            generalize nearL _ = n
            intro hEN
            have hEN := Lib.hid hEN
            cases n
            · go_wp2_with fail
              go_meet
              exact ⟨HC, Or.inl rfl⟩
            · go_wp2_with fail
              go_meet
              exact ⟨HC, Or.inr ⟨rfl, by simpa using hEN.out⟩⟩
        · obtain ⟨rfl, rfl⟩ := eqP_true hr
          clear hE hr
          rcases eqP_false hp with ip | ⟨rfl, ip⟩ <;> rcases eqP_false hq with iq | ⟨rfl, iq⟩
          all_goals
            clear hp hq
            go_wp2_with fail
            go_meet
            exact ⟨HB, Or.inl rfl⟩
      · obtain ⟨rfl, rfl⟩ := eqP_true hq
        clear hE hq
        rcases eqP_false hp with ip | ⟨rfl, ip⟩
        all_goals
          clear hp
          go_wp2_with fail
          go_meet
          exact ⟨HB, Or.inl rfl⟩
    · obtain ⟨rfl, rfl⟩ := eqP_true hp
      clear hE hp
      go_wp2_with fail
      go_meet
      exact ⟨HB, Or.inl rfl⟩
  case rest =>
  clear HB hE
  obtain ⟨HB, hv⟩ := hcut
  generalize wc = w4 at *
  obtain ⟨c0, c1, c2, c3, c4, c5, c6, c7, hg⟩ := HB.out
  have G := Lib.hid hg
  clear hg
  rcases hv with rfl | ⟨rfl, hI⟩
  · clear HB c0 c1 c2 c3 c4 c5 c6 c7
    go_wp2_with fail
    refine (awake08 _).mono ?_
    rintro e w5 ⟨rfl, hb⟩
    have G2 := Lib.hid (below_on G.out hb)
    clear hb G
    go_wp2
    go_ret
    exact ⟨rfl, G2.out⟩
  · have hI := Lib.hid hI
    clear c0 c1 c2 c3 c4 c5 c6 c7 G
    obtain ⟨c0, c1, c2, c3, c4, c5, c6, c7, hg⟩ := HB.out
    clear hg
    go_wp2_with fail
    refine (E1.out _).mono ?_
    rintro e w5 ⟨rfl, hb⟩
    have HC := Lib.hid (HB.out.later hb)
    clear HB hb c0 c1 c2 c3 c4 c5 c6 c7
    cases e1
    · have G := Lib.hid HC.out.2.2.2.2.2.2.2.2
      go_wp2_with fail
      refine (awake08 _).mono ?_
      rintro e w6 ⟨rfl, hb⟩
      have G2 := Lib.hid (below_on G.out hb)
      clear hb G HC
      go_wp2
      go_ret
      exact ⟨rfl, G2.out⟩
    · obtain ⟨c0, c1, c2, c3, c4, c5, c6, c7, hg⟩ := HC.out
      clear hg
      go_wp2_with fail
      refine (E2.out _).mono ?_
      rintro e w6 ⟨rfl, hb⟩
      have HD := Lib.hid (HC.out.later hb)
      clear HC hb c0 c1 c2 c3 c4 c5 c6 c7
      cases e2
      · have G := Lib.hid HD.out.2.2.2.2.2.2.2.2
        go_wp2_with fail
        refine (awake08 _).mono ?_
        rintro e w7 ⟨rfl, hb⟩
        have G2 := Lib.hid (below_on G.out hb)
        clear hb G HD
        go_wp2
        go_ret
        exact ⟨rfl, G2.out⟩
      · obtain rfl : e3 = true := by simpa using hI.out
        obtain ⟨c0, c1, c2, c3, c4, c5, c6, c7, hg⟩ := HD.out
        clear hg
        go_wp2_with fail
        refine (E3.out _).mono ?_
        rintro e w7 ⟨rfl, hb⟩
        have G := Lib.hid (HD.out.later hb).2.2.2.2.2.2.2.2
        clear HD hb c0 c1 c2 c3 c4 c5 c6 c7
        go_wp2_with fail
        refine (awake08 _).mono ?_
        rintro e w8 ⟨rfl, hb⟩
        have G2 := Lib.hid (below_on G.out hb)
        clear hb G
        go_wp2
        go_ret
        exact ⟨rfl, G2.out⟩
end Go.Proofs.Ytkojdifgmppfpaa
