/- The contracts of geom.lower, Less and of the reference's quarter, Less. -/
import Derived.Test.YtkojdifgmppfpaaGeoC
import Derived.Test.YtkojdifgmppfpaaGeoPlainC
namespace Go.Proofs.Ytkojdifgmppfpaa
open Go.RowKit
open Num Geo
set_option linter.unusedVariables false
theorem lw_cases (ox oy px py : Int) : (py < oy ∧ lw ox oy px py = true ∧ decide (py < oy) = true) ∨ (py = oy ∧ decide (py < oy) = false ∧ lw ox oy px py = decide (px < ox)) ∨ (oy < py ∧ decide (py < oy) = false ∧ (py == oy) = false ∧ lw ox oy px py = false) := by
  unfold lw
  rcases Int.lt_trichotomy py oy with h | h | h
  · exact .inl ⟨h, by rw [decide_eq_true h]; rfl, decide_eq_true h⟩
  · subst h; exact .inr (.inl ⟨rfl, by simp, by simp⟩)
  · refine .inr (.inr ⟨h, by simp; omega, by simp; omega, ?_⟩)
    rw [decide_eq_false (show ¬ py < oy by omega), decide_eq_false (show ¬ py = oy by omega)]; rfl
set_option maxHeartbeats 1000000 in
theorem lower_any (ox oy px py : Int) (w : World) :
    Calls Try.prog 39 #[.agg #[.int .i64 ox, .int .i64 oy], .agg #[.int .i64 px, .int .i64 py]] w fun e w' => e = .returned (.bool (lw ox oy px py)) ∧ Below w.heap.size w w' := by
  rcases lw_cases ox oy px py with ⟨h, hv, d⟩ | ⟨rfl, d, hv⟩ | ⟨h, d, d', hv⟩
  all_goals
    rw [hv]
    clear hv
    go_enter Try.func39, Try.ntmps39
    go_wp2
    go_ret
    exact ⟨rfl, by go_grown⟩
theorem eqP_true {ax ay bx by_ : Int} (h : eqP ax ay bx by_ = true) : ax = bx ∧ ay = by_ := by unfold eqP at h; simpa using h
theorem eqP_false {ax ay bx by_ : Int} (h : eqP ax ay bx by_ = false) : ¬ ax = bx ∨ (ax = bx ∧ ¬ ay = by_) := by
  unfold eqP at h; simp at h
  by_cases e : ax = bx
  · exact .inr ⟨e, h e⟩
  · exact .inl e
set_option maxHeartbeats 2000000 in
theorem Less_off (ox oy ax ay bx by_ : Int) (w : World) (hx : nearL [(ox, oy), (ax, ay), (bx, by_)] = false ∨ (nearL [(ox, oy), (ax, ay), (bx, by_)] = true ∧ eqP ax ay ox oy = true) ∨ (nearL [(ox, oy), (ax, ay), (bx, by_)] = true ∧ eqP ax ay ox oy = false ∧ eqP bx by_ ox oy = true)) :
    Calls Try.prog 20 #[.agg #[.int .i64 ox, .int .i64 oy], .agg #[.int .i64 ax, .int .i64 ay], .agg #[.int .i64 bx, .int .i64 by_]] w fun e w' => e = .returned (.bool false) ∧ Below w.heap.size w w' := by
  rcases hx with h1 | ⟨h1, h2⟩ | ⟨h1, h2, h3⟩
  · have H1 := Lib.hid h1
    clear h1
    go_enter Try.func20, Try.ntmps20
    go_wp2_with fail
    refine (near3 w ox oy ax ay bx by_).mono ?_
    rintro e w1 ⟨rfl, hb⟩
    rw [H1.out]
    obtain ⟨c0, c1, c2, c3, c4, c5, hg⟩ := hb
    have G := Lib.hid hg
    clear hg
    go_wp2
    go_ret
    exact ⟨rfl, G.out⟩
  · obtain ⟨rfl, rfl⟩ := eqP_true h2
    have H1 := Lib.hid h1
    clear h1 h2
    go_enter Try.func20, Try.ntmps20
    go_wp2_with fail
    refine (near3 w _ _ _ _ bx by_).mono ?_
    rintro e w1 ⟨rfl, hb⟩
    rw [H1.out]
    obtain ⟨c0, c1, c2, c3, c4, c5, hg⟩ := hb
    have G := Lib.hid hg
    clear hg
    go_wp2
    go_ret
    exact ⟨rfl, G.out⟩
  · obtain ⟨rfl, rfl⟩ := eqP_true h3
    have H1 := Lib.hid h1
    rcases eqP_false h2 with hx | ⟨rfl, hx⟩
    all_goals
      clear h1 h2 h3
      go_enter Try.func20, Try.ntmps20
      go_wp2_with fail
      refine (near3 w _ _ _ _ _ _).mono ?_
      rintro e w1 ⟨rfl, hb⟩
      rw [H1.out]
      obtain ⟨c0, c1, c2, c3, c4, c5, hg⟩ := hb
      have G := Lib.hid hg
      clear hg
      go_wp2
      go_ret
      exact ⟨rfl, G.out⟩
theorem eq_test {ax ay bx by_ : Int} (h : eqP ax ay bx by_ = false) : (ax == bx && ay == by_) = false := by
  rcases eqP_false h with h | ⟨h, h'⟩ <;> simp [*]
set_option maxHeartbeats 2000000 in
theorem Less_on (ox oy ax ay bx by_ : Int) (w : World) (h1 : nearL [(ox, oy), (ax, ay), (bx, by_)] = true) (h2 : eqP ax ay ox oy = false) (h3 : eqP bx by_ ox oy = false) :
    Calls Try.prog 20 #[.agg #[.int .i64 ox, .int .i64 oy], .agg #[.int .i64 ax, .int .i64 ay], .agg #[.int .i64 bx, .int .i64 by_]] w fun e w' => e = .returned (.bool (if lw ox oy ax ay = lw ox oy bx by_ then decide (0 < tw ox oy ax ay bx by_) else lw ox oy bx by_)) ∧ Below w.heap.size w w' := by
  have HN := Lib.hid ((near3_iff ox oy ax ay bx by_).1 h1)
  have H1 := Lib.hid h1
  have LA := Lib.hid (fun v => lower_any ox oy ax ay v)
  have LB := Lib.hid (fun v => lower_any ox oy bx by_ v)
  have TW := Lib.hid (fun v => twice_any ox oy ax ay bx by_ v HN.out.1 HN.out.2.1 HN.out.2.2)
  generalize lw ox oy ax ay = p at *
  generalize lw ox oy bx by_ = q at *
  generalize tw ox oy ax ay bx by_ = t at *
  obtain ⟨R, hR⟩ : ∃ R, (if p = q then decide (0 < t) else q) = R := ⟨_, rfl⟩
  rw [hR]
  have HR := Lib.hid hR
  clear hR
  rcases eqP_false h2 with hx | ⟨rfl, hx⟩ <;> rcases eqP_false h3 with hy | ⟨hz, hy⟩
  all_goals
    try subst hz
    clear h1 h2 h3
    go_enter Try.func20, Try.ntmps20
    go_wp2_with fail
    refine (near3 w _ _ _ _ _ _).mono ?_
    rintro e w1 ⟨rfl, hb⟩
    rw [H1.out]
    have HB := Lib.hid hb
    obtain ⟨c0, c1, c2, c3, c4, c5, hg⟩ := hb
    have G := Lib.hid hg
    clear hg
    have L0 := fun m : Later w1 => m.cell c0
    have L1 := fun m : Later w1 => m.cell c1
    have L2 := fun m : Later w1 => m.cell c2
    have L3 := fun m : Later w1 => m.cell c3
    have L4 := fun m : Later w1 => m.cell c4
    have L5 := fun m : Later w1 => m.cell c5
    go_wp2_with fail
    refine region_later (by kernel_rfl) (by kernel_rfl) ?_
    (go_big_quiet_want; go_big_quiet_op; go_big_quiet_on)
    (go_big_quiet_want; go_big_quiet_op; go_big_quiet_on)
    (go_big_quiet_want; go_big_quiet_op; go_big_quiet_call (exact later_of (LA.out _)))
    (go_big_quiet_want; go_big_quiet_op; go_big_quiet_on)
    (go_big_quiet_want; go_big_quiet_op; go_big_quiet_on)
    (go_big_quiet_want; go_big_quiet_op; go_big_quiet_call (exact later_of (LB.out _)))
    (go_big_quiet_want; go_big_quiet_op; go_big_quiet_on)
    refine wpQuiet_nil ?_
    refine later_end ?_
    intro m
    have d0 := L0 m
    have d1 := L1 m
    have d2 := L2 m
    have d3 := L3 m
    have d4 := L4 m
    have d5 := L5 m
    have G2 : Hid (Below w.heap.size w m.wd) := Lib.hid (below_on G.out m.below)
    clear L0 L1 L2 L3 L4 L5 c0 c1 c2 c3 c4 c5
    generalize m.wd = u at *
    cases p <;> cases q
    · have HR1 : Hid (decide (0 < t) = R) := Lib.hid HR.out
      clear HR
      go_wp2_with fail
      refine (TW.out _).mono ?_
      rintro e w2 ⟨rfl, hb2⟩
      have F2 := Lib.hid (below_on G2.out hb2)
      clear hb2
      go_wp2
      go_ret
      exact ⟨ret_bool' HR1.out, F2.out⟩
    · have HR1 : Hid (true = R) := Lib.hid HR.out
      clear HR
      go_wp2_with fail
      refine (LB.out _).mono ?_
      rintro e w2 ⟨rfl, hb2⟩
      have F2 := Lib.hid (below_on G2.out hb2)
      clear hb2
      go_wp2
      go_ret
      exact ⟨ret_bool' HR1.out, F2.out⟩
    · have HR1 : Hid (false = R) := Lib.hid HR.out
      clear HR
      go_wp2_with fail
      refine (LB.out _).mono ?_
      rintro e w2 ⟨rfl, hb2⟩
      have F2 := Lib.hid (below_on G2.out hb2)
      clear hb2
      go_wp2
      go_ret
      exact ⟨ret_bool' HR1.out, F2.out⟩
    · have HR1 : Hid (decide (0 < t) = R) := Lib.hid HR.out
      clear HR
      go_wp2_with fail
      refine (TW.out _).mono ?_
      rintro e w2 ⟨rfl, hb2⟩
      have F2 := Lib.hid (below_on G2.out hb2)
      clear hb2
      go_wp2
      go_ret
      exact ⟨ret_bool' HR1.out, F2.out⟩
theorem Less_any (ox oy ax ay bx by_ : Int) (w : World) :
    Calls Try.prog 20 #[.agg #[.int .i64 ox, .int .i64 oy], .agg #[.int .i64 ax, .int .i64 ay], .agg #[.int .i64 bx, .int .i64 by_]] w fun e w' => e = .returned (.bool (lsF ox oy ax ay bx by_)) ∧ Below w.heap.size w w' := by
  unfold lsF
  cases h1 : nearL [(ox, oy), (ax, ay), (bx, by_)]
  · rw [if_neg (by simp)]; exact Less_off ox oy ax ay bx by_ w (.inl h1)
  · cases h2 : eqP ax ay ox oy
    · cases h3 : eqP bx by_ ox oy
      · rw [if_pos ⟨rfl, rfl, rfl⟩]; exact Less_on ox oy ax ay bx by_ w h1 h2 h3
      · rw [if_neg (by simp)]; exact Less_off ox oy ax ay bx by_ w (.inr (.inr ⟨h1, h2, h3⟩))
    · rw [if_neg (by simp)]; exact Less_off ox oy ax ay bx by_ w (.inr (.inl ⟨h1, h2⟩))
theorem qt_cases (x y : Int) : (0 < x ∧ 0 ≤ y ∧ qt x y = 0) ∨ (0 < x ∧ y < 0 ∧ qt x y = 3) ∨ (x ≤ 0 ∧ 0 < y ∧ qt x y = 1) ∨ (x < 0 ∧ y ≤ 0 ∧ qt x y = 2) ∨ (x = 0 ∧ y ≤ 0 ∧ qt x y = 3) := by
  unfold qt
  repeat' split
  all_goals omega
set_option maxHeartbeats 2000000 in
theorem rquarter_any (ox oy ax ay : Int) (w : World) (ho : Nr ox oy) (ha : Nr ax ay) :
    Calls Try.prog 40 #[.agg #[.int .i64 ox, .int .i64 oy], .agg #[.int .i64 ax, .int .i64 ay]] w fun e w' => e = .returned (.int .i64 (qt (ax - ox) (ay - oy))) ∧ Below w.heap.size w w' := by
  unfold Nr at ho ha
  have e1 : wrap64 (ax - ox) = ax - ox := by unfold wrap64; omega
  have e2 : wrap64 (ay - oy) = ay - oy := by unfold wrap64; omega
  obtain ⟨x, hx⟩ : ∃ x, ax - ox = x := ⟨_, rfl⟩
  obtain ⟨y, hy⟩ : ∃ y, ay - oy = y := ⟨_, rfl⟩
  rw [hx] at e1
  rw [hy] at e2
  rw [hx, hy]
  rcases qt_cases x y with ⟨h1, h2, hq⟩ | ⟨h1, h2, hq⟩ | ⟨h1, h2, hq⟩ | ⟨h1, h2, hq⟩ | ⟨h1, h2, hq⟩
  all_goals
    rw [hq]
    clear hq
    go_enter Try.func40, Try.ntmps40
    go_wp2_with fail
    go_quiet (fail)
    clear hx hy
    try subst h1
    go_wp2
    go_ret
    exact ⟨rfl, below_dn (below_on (below_al w _) (below_al _ _)) _⟩
end Go.Proofs.Ytkojdifgmppfpaa
