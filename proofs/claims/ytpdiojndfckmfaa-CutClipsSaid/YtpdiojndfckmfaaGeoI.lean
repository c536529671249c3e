/- The contract of geom.Meet. -/
import Derived.Test.YtpdiojndfckmfaaGeoD
import Derived.Test.YtpdiojndfckmfaaGeoE
import Derived.Test.YtpdiojndfckmfaaGeoH
namespace Go.Proofs.Ytpdiojndfckmfaa
open Go.RowKit
open Num Geo
set_option linter.unusedVariables false
/-- what Side returns -/
def sd (ax ay bx by_ cx cy : Int) : Int := sgn (twF ax ay bx by_ cx cy)
def b2i (b : Bool) : Int := if b = true then 1 else 0
/-- what Meet returns -/
def mtF (ax ay bx by_ cx cy dx dy : Int) : Int :=
  if nearL [(ax, ay), (bx, by_), (cx, cy), (dx, dy)] = true then
    (if eqP ax ay bx by_ = true then b2i (onF cx cy dx dy ax ay)
     else if eqP cx cy dx dy = true then b2i (onF ax ay bx by_ cx cy)
     else if sd ax ay bx by_ cx cy = 0 ∧ sd ax ay bx by_ dx dy = 0 then shF ax ay bx by_ cx cy dx dy
     else b2i (decide (sd ax ay bx by_ cx cy * sd ax ay bx by_ dx dy ≤ 0) && decide (sd cx cy dx dy ax ay * sd cx cy dx dy bx by_ ≤ 0)))
  else 0
theorem sd_range (ax ay bx by_ cx cy : Int) : sd ax ay bx by_ cx cy = 1 ∨ sd ax ay bx by_ cx cy = -1 ∨ sd ax ay bx by_ cx cy = 0 := by
  unfold sd sgn
  repeat' split
  all_goals simp
theorem sd_wrap {s t : Int} (h : s = 1 ∨ s = -1 ∨ s = 0) (k : t = 1 ∨ t = -1 ∨ t = 0) : wrap64 (s * t) = s * t := by
  rcases h with rfl | rfl | rfl <;> rcases k with rfl | rfl | rfl <;> (unfold wrap64; omega)
theorem Side_sd (ax ay bx by_ cx cy : Int) (w : World) :
    Calls Try.prog 51 #[.agg #[.int .i64 ax, .int .i64 ay], .agg #[.int .i64 bx, .int .i64 by_], .agg #[.int .i64 cx, .int .i64 cy]] w fun e w' => e = .returned (.int .i64 (sd ax ay bx by_ cx cy)) ∧ Below w.heap.size w w' := Side_any ax ay bx by_ cx cy w
set_option maxHeartbeats 4000000 in
theorem Meet_off (ax ay bx by_ cx cy dx dy : Int) (w : World) (h : nearL [(ax, ay), (bx, by_), (cx, cy), (dx, dy)] = false) :
    Calls Try.prog 32 #[.agg #[.int .i64 ax, .int .i64 ay], .agg #[.int .i64 bx, .int .i64 by_], .agg #[.int .i64 cx, .int .i64 cy], .agg #[.int .i64 dx, .int .i64 dy]] w fun e w' => e = .returned (.int .i64 0) ∧ Below w.heap.size w w' := by
  have H1 := Lib.hid h
  clear h
  go_enter Try.func32, Try.ntmps32
  go_wp2_with fail
  refine (near4 w ax ay bx by_ cx cy dx dy).mono ?_
  rintro e w1 ⟨rfl, hb⟩
  rw [H1.out]
  have G := Lib.hid hb.2.2.2.2.2.2.2.2
  clear hb
  go_wp2
  go_ret
  exact ⟨rfl, G.out⟩
set_option maxHeartbeats 4000000 in
theorem Meet_pt1 (ax ay cx cy dx dy : Int) (w : World) (h : nearL [(ax, ay), (ax, ay), (cx, cy), (dx, dy)] = true) :
    Calls Try.prog 32 #[.agg #[.int .i64 ax, .int .i64 ay], .agg #[.int .i64 ax, .int .i64 ay], .agg #[.int .i64 cx, .int .i64 cy], .agg #[.int .i64 dx, .int .i64 dy]] w fun e w' => e = .returned (.int .i64 (b2i (onF cx cy dx dy ax ay))) ∧ Below w.heap.size w w' := by
  have H1 := Lib.hid h
  clear h
  have ON := Lib.hid (fun v => On_any cx cy dx dy ax ay v)
  generalize onF cx cy dx dy ax ay = o at *
  go_enter Try.func32, Try.ntmps32
  go_wp2_with fail
  refine (near4 w ax ay ax ay cx cy dx dy).mono ?_
  rintro e w1 ⟨rfl, hb⟩
  rw [H1.out]
  have HB := Lib.hid hb
  obtain ⟨c0, c1, c2, c3, c4, c5, c6, c7, hg⟩ := hb
  have G := Lib.hid hg
  clear hg
  go_wp2_with fail
  refine (ON.out _).mono ?_
  rintro e w2 ⟨rfl, hb2⟩
  have F2 := Lib.hid (below_on G.out hb2)
  clear hb2
  cases o <;> go_wp2 <;> go_ret <;> exact ⟨rfl, F2.out⟩
set_option maxHeartbeats 4000000 in
theorem Meet_pt2 (ax ay bx by_ cx cy : Int) (w : World) (h : nearL [(ax, ay), (bx, by_), (cx, cy), (cx, cy)] = true) (h2 : eqP ax ay bx by_ = false) :
    Calls Try.prog 32 #[.agg #[.int .i64 ax, .int .i64 ay], .agg #[.int .i64 bx, .int .i64 by_], .agg #[.int .i64 cx, .int .i64 cy], .agg #[.int .i64 cx, .int .i64 cy]] w fun e w' => e = .returned (.int .i64 (b2i (onF ax ay bx by_ cx cy))) ∧ Below w.heap.size w w' := by
  have H1 := Lib.hid h
  clear h
  have ON := Lib.hid (fun v => On_any ax ay bx by_ cx cy v)
  generalize onF ax ay bx by_ cx cy = o at *
  rcases eqP_false h2 with hx | ⟨rfl, hx⟩
  all_goals
    clear h2
    go_enter Try.func32, Try.ntmps32
    go_wp2_with fail
    refine (near4 w _ _ _ _ cx cy cx cy).mono ?_
    rintro e w1 ⟨rfl, hb⟩
    rw [H1.out]
    have HB := Lib.hid hb
    obtain ⟨c0, c1, c2, c3, c4, c5, c6, c7, hg⟩ := hb
    have G := Lib.hid hg
    clear hg
    go_wp2_with fail
    refine (ON.out _).mono ?_
    rintro e w2 ⟨rfl, hb2⟩
    have F2 := Lib.hid (below_on G.out hb2)
    clear hb2
    cases o <;> go_wp2 <;> go_ret <;> exact ⟨rfl, F2.out⟩
set_option maxHeartbeats 8000000 in
theorem Meet_on (ax ay bx by_ cx cy dx dy : Int) (w : World) (h : nearL [(ax, ay), (bx, by_), (cx, cy), (dx, dy)] = true) (h2 : eqP ax ay bx by_ = false) (h3 : eqP cx cy dx dy = false) :
    Calls Try.prog 32 #[.agg #[.int .i64 ax, .int .i64 ay], .agg #[.int .i64 bx, .int .i64 by_], .agg #[.int .i64 cx, .int .i64 cy], .agg #[.int .i64 dx, .int .i64 dy]] w fun e w' => e = .returned (.int .i64 (if sd ax ay bx by_ cx cy = 0 ∧ sd ax ay bx by_ dx dy = 0 then shF ax ay bx by_ cx cy dx dy
     else b2i (decide (sd ax ay bx by_ cx cy * sd ax ay bx by_ dx dy ≤ 0) && decide (sd cx cy dx dy ax ay * sd cx cy dx dy bx by_ ≤ 0)))) ∧ Below w.heap.size w w' := by
  have H1 := Lib.hid h
  have S1 := Lib.hid (fun v => Side_sd ax ay bx by_ cx cy v)
  have S2 := Lib.hid (fun v => Side_sd ax ay bx by_ dx dy v)
  have S3 := Lib.hid (fun v => Side_sd cx cy dx dy ax ay v)
  have S4 := Lib.hid (fun v => Side_sd cx cy dx dy bx by_ v)
  have SH := Lib.hid (fun v => shared_any ax ay bx by_ cx cy dx dy v)
  have W1 := sd_wrap (sd_range ax ay bx by_ cx cy) (sd_range ax ay bx by_ dx dy)
  have W2 := sd_wrap (sd_range cx cy dx dy ax ay) (sd_range cx cy dx dy bx by_)
  generalize sd ax ay bx by_ cx cy = s1 at *
  generalize sd ax ay bx by_ dx dy = s2 at *
  generalize sd cx cy dx dy ax ay = s3 at *
  generalize sd cx cy dx dy bx by_ = s4 at *
  generalize shF ax ay bx by_ cx cy dx dy = sh at *
  obtain ⟨m, hm⟩ : ∃ m, s1 * s2 = m := ⟨_, rfl⟩
  obtain ⟨n, hn⟩ : ∃ n, s3 * s4 = n := ⟨_, rfl⟩
  rw [hm, hn]
  have HM := Lib.hid hm
  replace W1 := W1.trans hm
  replace W2 := W2.trans hn
  clear hm hn
  obtain ⟨R, hR⟩ : ∃ R, (if s1 = 0 ∧ s2 = 0 then sh else b2i (decide (m ≤ 0) && decide (n ≤ 0))) = R := ⟨_, rfl⟩
  rw [hR]
  have HR := Lib.hid hR
  clear hR h
  rcases eqP_false h2 with hx | ⟨hz, hx⟩ <;> rcases eqP_false h3 with hy | ⟨ht, hy⟩
  all_goals
    try subst hz
    try subst ht
    clear h2 h3
    go_enter Try.func32, Try.ntmps32
    go_wp2_with fail
    refine (near4 w _ _ _ _ _ _ _ _).mono ?_
    rintro e w1 ⟨rfl, hb⟩
    rw [H1.out]
    have HB := Lib.hid hb
    obtain ⟨c0, c1, c2, c3, c4, c5, c6, c7, hg⟩ := hb
    have G := Lib.hid hg
    clear hg
    go_wp2_with fail
    refine (S1.out _).mono ?_
    rintro e w2 ⟨rfl, hb2⟩
    have HB2 := Lib.hid (HB.out.later hb2)
    clear HB hb2 c0 c1 c2 c3 c4 c5 c6 c7
    obtain ⟨c0, c1, c2, c3, c4, c5, c6, c7, hg⟩ := HB2.out
    have G2 := Lib.hid hg
    clear hg
    by_cases e1 : s1 = 0
    · subst e1
      obtain rfl : m = 0 := by rw [← HM.out]; simp
      clear W1 HM
      go_wp2_with fail
      refine (S2.out _).mono ?_
      rintro e w3 ⟨rfl, hb3⟩
      have HB3 := Lib.hid (HB2.out.later hb3)
      clear HB2 hb3 c0 c1 c2 c3 c4 c5 c6 c7
      obtain ⟨c0, c1, c2, c3, c4, c5, c6, c7, hg⟩ := HB3.out
      have G3 := Lib.hid hg
      clear hg
      by_cases e2 : s2 = 0
      · subst e2
        have HRD := Lib.hid ((if_pos (by simp)).symm.trans HR.out)
        clear HR
        go_wp2_with fail
        refine (SH.out _).mono ?_
        rintro e w4 ⟨rfl, hb4⟩
        have G4 := Lib.hid (below_on G3.out hb4)
        clear hb4
        go_wp2
        go_ret
        exact ⟨ret_int HRD.out, G4.out⟩
      · have HRD := Lib.hid ((if_neg (fun h => e2 h.2)).symm.trans HR.out)
        have e2' : (s2 == 0) = false := by simpa using e2
        clear HR e2
        by_cases hn : n ≤ 0
        · have dn : decide (n ≤ 0) = true := decide_eq_true hn
          have HRE := Lib.hid ((show (1 : Int) = _ by rw [dn]; rfl).trans HRD.out)
          clear hn
          have L0 := fun k : Later w3 => k.cell c0
          have L1 := fun k : Later w3 => k.cell c1
          have L2 := fun k : Later w3 => k.cell c2
          have L3 := fun k : Later w3 => k.cell c3
          have L4 := fun k : Later w3 => k.cell c4
          have L5 := fun k : Later w3 => k.cell c5
          have L6 := fun k : Later w3 => k.cell c6
          have L7 := fun k : Later w3 => k.cell c7
          go_wp2_with fail
          refine region_later (by kernel_rfl) (by kernel_rfl) ?_
          (go_big_quiet_want; go_big_quiet_op; go_big_quiet_on)
          (go_big_quiet_want; go_big_quiet_op; go_big_quiet_on)
          (go_big_quiet_want; go_big_quiet_op; go_big_quiet_on)
          (go_big_quiet_want; go_big_quiet_op; go_big_quiet_call (exact later_of (S1.out _)))
          (go_big_quiet_want; go_big_quiet_op; go_big_quiet_on)
          (go_big_quiet_want; go_big_quiet_op; go_big_quiet_on)
          (go_big_quiet_want; go_big_quiet_op; go_big_quiet_on)
          (go_big_quiet_want; go_big_quiet_op; go_big_quiet_call (exact later_of (S2.out _)))
          (go_big_quiet_want; go_big_quiet_op; go_big_quiet_on)
          (go_big_quiet_want; go_big_quiet_op; go_big_quiet_on)
          (go_big_quiet_want; go_big_quiet_op; go_big_quiet_on)
          (go_big_quiet_want; go_big_quiet_op; go_big_quiet_on)
          (go_big_quiet_want; go_big_quiet_op; go_big_quiet_on)
          (go_big_quiet_want; go_big_quiet_op; go_big_quiet_on)
          (go_big_quiet_want; go_big_quiet_op; go_big_quiet_call (exact later_of (S3.out _)))
          (go_big_quiet_want; go_big_quiet_op; go_big_quiet_on)
          (go_big_quiet_want; go_big_quiet_op; go_big_quiet_on)
          (go_big_quiet_want; go_big_quiet_op; go_big_quiet_on)
          (go_big_quiet_want; go_big_quiet_op; go_big_quiet_call (exact later_of (S4.out _)))
          (go_big_quiet_want; go_big_quiet_op; go_big_quiet_on)
          (go_big_quiet_want; go_big_quiet_op; go_big_quiet_on)
          (go_big_quiet_want; go_big_quiet_op; go_big_quiet_on)
          (go_big_quiet_want; go_big_quiet_op; go_big_quiet_on)
          refine wpQuiet_nil ?_
          refine later_end ?_
          intro k
          have GK : Hid (Below w.heap.size w k.wd) := Lib.hid (below_on G3.out k.below)
          clear L0 L1 L2 L3 L4 L5 L6 L7 c0 c1 c2 c3 c4 c5 c6 c7
          generalize k.wd = u at *
          go_wp2
          go_ret
          exact ⟨ret_int HRE.out, GK.out⟩
        · have dn : decide (n ≤ 0) = false := decide_eq_false hn
          have HRE := Lib.hid ((show (0 : Int) = _ by rw [dn]; rfl).trans HRD.out)
          clear hn
          have L0 := fun k : Later w3 => k.cell c0
          have L1 := fun k : Later w3 => k.cell c1
          have L2 := fun k : Later w3 => k.cell c2
          have L3 := fun k : Later w3 => k.cell c3
          have L4 := fun k : Later w3 => k.cell c4
          have L5 := fun k : Later w3 => k.cell c5
          have L6 := fun k : Later w3 => k.cell c6
          have L7 := fun k : Later w3 => k.cell c7
          go_wp2_with fail
          refine region_later (by kernel_rfl) (by kernel_rfl) ?_
          (go_big_quiet_want; go_big_quiet_op; go_big_quiet_on)
          (go_big_quiet_want; go_big_quiet_op; go_big_quiet_on)
          (go_big_quiet_want; go_big_quiet_op; go_big_quiet_on)
          (go_big_quiet_want; go_big_quiet_op; go_big_quiet_call (exact later_of (S1.out _)))
          (go_big_quiet_want; go_big_quiet_op; go_big_quiet_on)
          (go_big_quiet_want; go_big_quiet_op; go_big_quiet_on)
          (go_big_quiet_want; go_big_quiet_op; go_big_quiet_on)
          (go_big_quiet_want; go_big_quiet_op; go_big_quiet_call (exact later_of (S2.out _)))
          (go_big_quiet_want; go_big_quiet_op; go_big_quiet_on)
          (go_big_quiet_want; go_big_quiet_op; go_big_quiet_on)
          (go_big_quiet_want; go_big_quiet_op; go_big_quiet_on)
          (go_big_quiet_want; go_big_quiet_op; go_big_quiet_on)
          (go_big_quiet_want; go_big_quiet_op; go_big_quiet_on)
          (go_big_quiet_want; go_big_quiet_op; go_big_quiet_on)
          (go_big_quiet_want; go_big_quiet_op; go_big_quiet_call (exact later_of (S3.out _)))
          (go_big_quiet_want; go_big_quiet_op; go_big_quiet_on)
          (go_big_quiet_want; go_big_quiet_op; go_big_quiet_on)
          (go_big_quiet_want; go_big_quiet_op; go_big_quiet_on)
          (go_big_quiet_want; go_big_quiet_op; go_big_quiet_call (exact later_of (S4.out _)))
          (go_big_quiet_want; go_big_quiet_op; go_big_quiet_on)
          (go_big_quiet_want; go_big_quiet_op; go_big_quiet_on)
          (go_big_quiet_want; go_big_quiet_op; go_big_quiet_on)
          (go_big_quiet_want; go_big_quiet_op; go_big_quiet_on)
          refine wpQuiet_nil ?_
          refine later_end ?_
          intro k
          have GK : Hid (Below w.heap.size w k.wd) := Lib.hid (below_on G3.out k.below)
          clear L0 L1 L2 L3 L4 L5 L6 L7 c0 c1 c2 c3 c4 c5 c6 c7
          generalize k.wd = u at *
          go_wp2
          go_ret
          exact ⟨ret_int HRE.out, GK.out⟩
    · have HRD := Lib.hid ((if_neg (fun h => e1 h.1)).symm.trans HR.out)
      have e1' : (s1 == 0) = false := by simpa using e1
      clear HR e1
      by_cases hm : m ≤ 0
      · have dm : decide (m ≤ 0) = true := decide_eq_true hm
        by_cases hn : n ≤ 0
        · have dn : decide (n ≤ 0) = true := decide_eq_true hn
          have HRE := Lib.hid ((show (1 : Int) = _ by rw [dm, dn]; rfl).trans HRD.out)
          clear hm hn
          have L0 := fun k : Later w2 => k.cell c0
          have L1 := fun k : Later w2 => k.cell c1
          have L2 := fun k : Later w2 => k.cell c2
          have L3 := fun k : Later w2 => k.cell c3
          have L4 := fun k : Later w2 => k.cell c4
          have L5 := fun k : Later w2 => k.cell c5
          have L6 := fun k : Later w2 => k.cell c6
          have L7 := fun k : Later w2 => k.cell c7
          go_wp2_with fail
          refine region_later (by kernel_rfl) (by kernel_rfl) ?_
          (go_big_quiet_want; go_big_quiet_op; go_big_quiet_on)
          (go_big_quiet_want; go_big_quiet_op; go_big_quiet_on)
          (go_big_quiet_want; go_big_quiet_op; go_big_quiet_on)
          (go_big_quiet_want; go_big_quiet_op; go_big_quiet_call (exact later_of (S1.out _)))
          (go_big_quiet_want; go_big_quiet_op; go_big_quiet_on)
          (go_big_quiet_want; go_big_quiet_op; go_big_quiet_on)
          (go_big_quiet_want; go_big_quiet_op; go_big_quiet_on)
          (go_big_quiet_want; go_big_quiet_op; go_big_quiet_call (exact later_of (S2.out _)))
          (go_big_quiet_want; go_big_quiet_op; go_big_quiet_on)
          (go_big_quiet_want; go_big_quiet_op; go_big_quiet_on)
          (go_big_quiet_want; go_big_quiet_op; go_big_quiet_on)
          (go_big_quiet_want; go_big_quiet_op; go_big_quiet_on)
          (go_big_quiet_want; go_big_quiet_op; go_big_quiet_on)
          (go_big_quiet_want; go_big_quiet_op; go_big_quiet_on)
          (go_big_quiet_want; go_big_quiet_op; go_big_quiet_call (exact later_of (S3.out _)))
          (go_big_quiet_want; go_big_quiet_op; go_big_quiet_on)
          (go_big_quiet_want; go_big_quiet_op; go_big_quiet_on)
          (go_big_quiet_want; go_big_quiet_op; go_big_quiet_on)
          (go_big_quiet_want; go_big_quiet_op; go_big_quiet_call (exact later_of (S4.out _)))
          (go_big_quiet_want; go_big_quiet_op; go_big_quiet_on)
          (go_big_quiet_want; go_big_quiet_op; go_big_quiet_on)
          (go_big_quiet_want; go_big_quiet_op; go_big_quiet_on)
          (go_big_quiet_want; go_big_quiet_op; go_big_quiet_on)
          refine wpQuiet_nil ?_
          refine later_end ?_
          intro k
          have GK : Hid (Below w.heap.size w k.wd) := Lib.hid (below_on G2.out k.below)
          clear L0 L1 L2 L3 L4 L5 L6 L7 c0 c1 c2 c3 c4 c5 c6 c7
          generalize k.wd = u at *
          go_wp2
          go_ret
          exact ⟨ret_int HRE.out, GK.out⟩
        · have dn : decide (n ≤ 0) = false := decide_eq_false hn
          have HRE := Lib.hid ((show (0 : Int) = _ by rw [dm, dn]; rfl).trans HRD.out)
          clear hm hn
          have L0 := fun k : Later w2 => k.cell c0
          have L1 := fun k : Later w2 => k.cell c1
          have L2 := fun k : Later w2 => k.cell c2
          have L3 := fun k : Later w2 => k.cell c3
          have L4 := fun k : Later w2 => k.cell c4
          have L5 := fun k : Later w2 => k.cell c5
          have L6 := fun k : Later w2 => k.cell c6
          have L7 := fun k : Later w2 => k.cell c7
          go_wp2_with fail
          refine region_later (by kernel_rfl) (by kernel_rfl) ?_
          (go_big_quiet_want; go_big_quiet_op; go_big_quiet_on)
          (go_big_quiet_want; go_big_quiet_op; go_big_quiet_on)
          (go_big_quiet_want; go_big_quiet_op; go_big_quiet_on)
          (go_big_quiet_want; go_big_quiet_op; go_big_quiet_call (exact later_of (S1.out _)))
          (go_big_quiet_want; go_big_quiet_op; go_big_quiet_on)
          (go_big_quiet_want; go_big_quiet_op; go_big_quiet_on)
          (go_big_quiet_want; go_big_quiet_op; go_big_quiet_on)
          (go_big_quiet_want; go_big_quiet_op; go_big_quiet_call (exact later_of (S2.out _)))
          (go_big_quiet_want; go_big_quiet_op; go_big_quiet_on)
          (go_big_quiet_want; go_big_quiet_op; go_big_quiet_on)
          (go_big_quiet_want; go_big_quiet_op; go_big_quiet_on)
          (go_big_quiet_want; go_big_quiet_op; go_big_quiet_on)
          (go_big_quiet_want; go_big_quiet_op; go_big_quiet_on)
          (go_big_quiet_want; go_big_quiet_op; go_big_quiet_on)
          (go_big_quiet_want; go_big_quiet_op; go_big_quiet_call (exact later_of (S3.out _)))
          (go_big_quiet_want; go_big_quiet_op; go_big_quiet_on)
          (go_big_quiet_want; go_big_quiet_op; go_big_quiet_on)
          (go_big_quiet_want; go_big_quiet_op; go_big_quiet_on)
          (go_big_quiet_want; go_big_quiet_op; go_big_quiet_call (exact later_of (S4.out _)))
          (go_big_quiet_want; go_big_quiet_op; go_big_quiet_on)
          (go_big_quiet_want; go_big_quiet_op; go_big_quiet_on)
          (go_big_quiet_want; go_big_quiet_op; go_big_quiet_on)
          (go_big_quiet_want; go_big_quiet_op; go_big_quiet_on)
          refine wpQuiet_nil ?_
          refine later_end ?_
          intro k
          have GK : Hid (Below w.heap.size w k.wd) := Lib.hid (below_on G2.out k.below)
          clear L0 L1 L2 L3 L4 L5 L6 L7 c0 c1 c2 c3 c4 c5 c6 c7
          generalize k.wd = u at *
          go_wp2
          go_ret
          exact ⟨ret_int HRE.out, GK.out⟩
      · have dm : decide (m ≤ 0) = false := decide_eq_false hm
        have HRE := Lib.hid ((show (0 : Int) = _ by rw [dm]; rfl).trans HRD.out)
        clear hm
        have L0 := fun k : Later w2 => k.cell c0
        have L1 := fun k : Later w2 => k.cell c1
        have L2 := fun k : Later w2 => k.cell c2
        have L3 := fun k : Later w2 => k.cell c3
        have L4 := fun k : Later w2 => k.cell c4
        have L5 := fun k : Later w2 => k.cell c5
        have L6 := fun k : Later w2 => k.cell c6
        have L7 := fun k : Later w2 => k.cell c7
        go_wp2_with fail
        refine region_later (by kernel_rfl) (by kernel_rfl) ?_
        (go_big_quiet_want; go_big_quiet_op; go_big_quiet_on)
        (go_big_quiet_want; go_big_quiet_op; go_big_quiet_on)
        (go_big_quiet_want; go_big_quiet_op; go_big_quiet_on)
        (go_big_quiet_want; go_big_quiet_op; go_big_quiet_call (exact later_of (S1.out _)))
        (go_big_quiet_want; go_big_quiet_op; go_big_quiet_on)
        (go_big_quiet_want; go_big_quiet_op; go_big_quiet_on)
        (go_big_quiet_want; go_big_quiet_op; go_big_quiet_on)
        (go_big_quiet_want; go_big_quiet_op; go_big_quiet_call (exact later_of (S2.out _)))
        (go_big_quiet_want; go_big_quiet_op; go_big_quiet_on)
        (go_big_quiet_want; go_big_quiet_op; go_big_quiet_on)
        (go_big_quiet_want; go_big_quiet_op; go_big_quiet_on)
        go_big_quiet_skip
        go_big_quiet_skip
        go_big_quiet_skip
        go_big_quiet_skip
        go_big_quiet_skip
        go_big_quiet_skip
        go_big_quiet_skip
        go_big_quiet_skip
        go_big_quiet_skip
        go_big_quiet_skip
        (go_big_quiet_want; go_big_quiet_op; go_big_quiet_on)
        (go_big_quiet_want; go_big_quiet_op; go_big_quiet_on)
        refine wpQuiet_nil ?_
        refine later_end ?_
        intro k
        have GK : Hid (Below w.heap.size w k.wd) := Lib.hid (below_on G2.out k.below)
        clear L0 L1 L2 L3 L4 L5 L6 L7 c0 c1 c2 c3 c4 c5 c6 c7
        generalize k.wd = u at *
        go_wp2
        go_ret
        exact ⟨ret_int HRE.out, GK.out⟩
theorem Meet_any (ax ay bx by_ cx cy dx dy : Int) (w : World) :
    Calls Try.prog 32 #[.agg #[.int .i64 ax, .int .i64 ay], .agg #[.int .i64 bx, .int .i64 by_], .agg #[.int .i64 cx, .int .i64 cy], .agg #[.int .i64 dx, .int .i64 dy]] w fun e w' => e = .returned (.int .i64 (mtF ax ay bx by_ cx cy dx dy)) ∧ Below w.heap.size w w' := by
  unfold mtF
  cases h1 : nearL [(ax, ay), (bx, by_), (cx, cy), (dx, dy)]
  · rw [if_neg (by simp)]; exact Meet_off ax ay bx by_ cx cy dx dy w h1
  · rw [if_pos rfl]
    cases h2 : eqP ax ay bx by_
    · rw [if_neg (by simp)]
      cases h3 : eqP cx cy dx dy
      · rw [if_neg (by simp)]; exact Meet_on ax ay bx by_ cx cy dx dy w h1 h2 h3
      · rw [if_pos rfl]
        obtain ⟨rfl, rfl⟩ := eqP_true h3
        exact Meet_pt2 _ _ _ _ _ _ w h1 h2
    · rw [if_pos rfl]
      obtain ⟨rfl, rfl⟩ := eqP_true h2
      exact Meet_pt1 _ _ _ _ _ _ w h1
end Go.Proofs.Ytpdiojndfckmfaa
