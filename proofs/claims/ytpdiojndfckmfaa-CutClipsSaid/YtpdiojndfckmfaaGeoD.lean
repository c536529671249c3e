/- The contracts of geom.On and of the reference's On. -/
import Derived.Test.YtpdiojndfckmfaaGeoC
import Derived.Test.YtpdiojndfckmfaaCutBase
namespace Go.Proofs.Ytpdiojndfckmfaa
open Go.RowKit
open Num Geo
set_option linter.unusedVariables false
set_option maxHeartbeats 2000000 in
theorem On_any (ax ay bx by_ cx cy : Int) (w : World) :
    Calls Try.prog 33 #[.agg #[.int .i64 ax, .int .i64 ay], .agg #[.int .i64 bx, .int .i64 by_], .agg #[.int .i64 cx, .int .i64 cy]] w fun e w' => e = .returned (.bool (onF ax ay bx by_ cx cy)) ∧ Below w.heap.size w w' := by
  have HI := Lib.hid (near3_iff ax ay bx by_ cx cy)
  have HF : Hid (onF ax ay bx by_ cx cy = (nearL [(ax, ay), (bx, by_), (cx, cy)] && decide (tw ax ay bx by_ cx cy = 0) && inb ax ay bx by_ cx cy)) := Lib.hid rfl
  have HB0 : Hid (inb ax ay bx by_ cx cy = (decide (min ax bx ≤ cx) && decide (cx ≤ max ax bx) && decide (min ay by_ ≤ cy) && decide (cy ≤ max ay by_))) := Lib.hid rfl
  go_enter Try.func33, Try.ntmps33
  go_wp2_with fail
  refine (near3 w ax ay bx by_ cx cy).mono ?_
  rintro e w1 ⟨rfl, hb⟩
  have HB := Lib.hid hb
  obtain ⟨c0, c1, c2, c3, c4, c5, hg⟩ := hb
  have G := Lib.hid hg
  clear hg
  cases hn : nearL [(ax, ay), (bx, by_), (cx, cy)]
  · have HF1 := Lib.hid (HF.out.trans (by rw [hn]; try rfl))
    clear hn
    go_wp2
    go_ret
    exact ⟨ret_bool' HF1.out.symm, G.out⟩
  · have HF1 := Lib.hid (HF.out.trans (by rw [hn, Bool.true_and]))
    have HN := Lib.hid (HI.out.1 hn)
    clear hn
    have TW := Lib.hid (fun v => twice_any ax ay bx by_ cx cy v HN.out.1 HN.out.2.1 HN.out.2.2)
    generalize tw ax ay bx by_ cx cy = t at *
    by_cases ht : t = 0
    · subst ht
      have HF2 := Lib.hid (HF1.out.trans (show _ = inb ax ay bx by_ cx cy by rw [decide_eq_true rfl, Bool.true_and]))
      go_wp2_with fail
      refine (TW.out _).mono ?_
      rintro e w2 ⟨rfl, hb2⟩
      obtain ⟨d0, d1, d2, d3, d4, d5, hg⟩ := HB.out.later hb2
      have F2 := Lib.hid (below_on G.out hb2)
      clear hb2 c0 c1 c2 c3 c4 c5 hg
      clear HB HF HF1 TW HI HN G
      go_wp2
      all_goals
        go_ret
        refine ⟨ret_bool' (Eq.trans ?_ HF2.out.symm), F2.out⟩
        rw [HB0.out]
        clear d0 d1 d2 d3 d4 d5
        first | (simp [*]; done) | (simp [*]; omega)
    · have ht1 : (t == 0) = false := by simpa using ht
      have ht2 : decide (t = 0) = false := by simpa using ht
      have HF2 := Lib.hid (HF1.out.trans (show _ = false by rw [ht2, Bool.false_and]))
      go_wp2_with fail
      refine (TW.out _).mono ?_
      rintro e w2 ⟨rfl, hb2⟩
      have F2 := Lib.hid (below_on G.out hb2)
      clear hb2
      go_wp2
      go_ret
      exact ⟨ret_bool' HF2.out.symm, F2.out⟩
set_option maxHeartbeats 2000000 in
theorem rOn_any (ax ay bx by_ cx cy : Int) (w : World) :
    Calls Try.prog 36 #[.agg #[.int .i64 ax, .int .i64 ay], .agg #[.int .i64 bx, .int .i64 by_], .agg #[.int .i64 cx, .int .i64 cy]] w fun e w' => e = .returned (.bool (onF ax ay bx by_ cx cy)) ∧ Below w.heap.size w w' := by
  have HI := Lib.hid (near3_iff ax ay bx by_ cx cy)
  have HF : Hid (onF ax ay bx by_ cx cy = (nearL [(ax, ay), (bx, by_), (cx, cy)] && decide (tw ax ay bx by_ cx cy = 0) && inb ax ay bx by_ cx cy)) := Lib.hid rfl
  have OD := Lib.hid (fun h => on_dot (ax := ax) (ay := ay) (bx := bx) (by_ := by_) (cx := cx) (cy := cy) h)
  go_enter Try.func36, Try.ntmps36
  go_wp2_with fail
  refine (rnear3 w ax ay bx by_ cx cy).mono ?_
  rintro e w1 ⟨rfl, hb⟩
  have HB := Lib.hid hb
  obtain ⟨c0, c1, c2, c3, c4, c5, hg⟩ := hb
  have G := Lib.hid hg
  clear hg
  cases hn : nearL [(ax, ay), (bx, by_), (cx, cy)]
  · have HF1 := Lib.hid (HF.out.trans (by rw [hn]; try rfl))
    clear hn
    go_wp2
    go_ret
    exact ⟨ret_bool' HF1.out.symm, G.out⟩
  · have HF1 := Lib.hid (HF.out.trans (by rw [hn, Bool.true_and]))
    have HN := Lib.hid (HI.out.1 hn)
    clear hn
    have TW := Lib.hid (fun v => rcross_any ax ay bx by_ ax ay cx cy v HN.out.1 HN.out.2.1 HN.out.1 HN.out.2.2)
    have DT := Lib.hid (fun v => rdot_any ax ay cx cy bx by_ cx cy v HN.out.1 HN.out.2.2 HN.out.2.1 HN.out.2.2)
    rw [tw_cr] at TW
    generalize tw ax ay bx by_ cx cy = t at *
    by_cases ht : t = 0
    · subst ht
      have HF2 := Lib.hid (HF1.out.trans (show _ = inb ax ay bx by_ cx cy by rw [decide_eq_true rfl, Bool.true_and]))
      have OD1 := Lib.hid (OD.out rfl)
      generalize dt ax ay cx cy bx by_ cx cy = s at *
      go_wp2_with fail
      refine (TW.out _).mono ?_
      rintro e w2 ⟨rfl, hb2⟩
      have HB2 := Lib.hid (HB.out.later hb2)
      obtain ⟨d0, d1, d2, d3, d4, d5, hg⟩ := HB.out.later hb2
      have F2 := Lib.hid (below_on G.out hb2)
      clear hb2 c0 c1 c2 c3 c4 c5 hg
      go_wp2_with fail
      refine (DT.out _).mono ?_
      rintro e w3 ⟨rfl, hb3⟩
      have F3 := Lib.hid (below_on F2.out hb3)
      clear hb3
      have OE : Hid (decide (s ≤ 0) = inb ax ay bx by_ cx cy) := Lib.hid (by
        by_cases h : s ≤ 0
        · rw [decide_eq_true h, OD1.out.1 h]
        · rw [decide_eq_false h]
          cases hi : inb ax ay bx by_ cx cy
          · rfl
          · exact absurd (OD1.out.2 hi) h)
      go_wp2
      go_ret
      exact ⟨ret_bool' (OE.out.trans HF2.out.symm), F3.out⟩
    · have ht1 : (t == 0) = false := by simpa using ht
      have ht2 : decide (t = 0) = false := by simpa using ht
      have HF2 := Lib.hid (HF1.out.trans (show _ = false by rw [ht2, Bool.false_and]))
      go_wp2_with fail
      refine (TW.out _).mono ?_
      rintro e w2 ⟨rfl, hb2⟩
      have F2 := Lib.hid (below_on G.out hb2)
      clear hb2
      go_wp2
      go_ret
      exact ⟨ret_bool' HF2.out.symm, F2.out⟩
end Go.Proofs.Ytpdiojndfckmfaa
