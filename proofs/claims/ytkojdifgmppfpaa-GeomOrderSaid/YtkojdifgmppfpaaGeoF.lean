/- The contract of the reference's Less. -/
import Derived.Test.YtkojdifgmppfpaaGeoE
namespace Go.Proofs.Ytkojdifgmppfpaa
open Go.RowKit
open Num Geo
set_option linter.unusedVariables false
set_option maxHeartbeats 2000000 in
theorem rLess_off (ox oy ax ay bx by_ : Int) (w : World) (hx : nearL [(ox, oy), (ax, ay), (bx, by_)] = false ∨ (nearL [(ox, oy), (ax, ay), (bx, by_)] = true ∧ eqP ax ay ox oy = true) ∨ (nearL [(ox, oy), (ax, ay), (bx, by_)] = true ∧ eqP ax ay ox oy = false ∧ eqP bx by_ ox oy = true)) :
    Calls Try.prog 21 #[.agg #[.int .i64 ox, .int .i64 oy], .agg #[.int .i64 ax, .int .i64 ay], .agg #[.int .i64 bx, .int .i64 by_]] w fun e w' => e = .returned (.bool false) ∧ Below w.heap.size w w' := by
  rcases hx with h1 | ⟨h1, h2⟩ | ⟨h1, h2, h3⟩
  · have H1 := Lib.hid h1
    clear h1
    go_enter Try.func21, Try.ntmps21
    go_wp2_with fail
    refine (rnear3 w ox oy ax ay bx by_).mono ?_
    rintro e w1 ⟨rfl, hb⟩
    rw [H1.out]
    obtain ⟨c0, c1, c2, c3, c4, c5, hg⟩ := hb
    have G := Lib.hid hg
    clear hg
    go_wp2
    go_ret
    exact ⟨rfl, G.out⟩
  · obtain ⟨rfl, rfl⟩ := eqP_true h2
    have H1 := Lib.hid h1
    clear h1 h2
    go_enter Try.func21, Try.ntmps21
    go_wp2_with fail
    refine (rnear3 w _ _ _ _ bx by_).mono ?_
    rintro e w1 ⟨rfl, hb⟩
    rw [H1.out]
    obtain ⟨c0, c1, c2, c3, c4, c5, hg⟩ := hb
    have G := Lib.hid hg
    clear hg
    go_wp2
    go_ret
    exact ⟨rfl, G.out⟩
  · obtain ⟨rfl, rfl⟩ := eqP_true h3
    have H1 := Lib.hid h1
    rcases eqP_false h2 with hx | ⟨rfl, hx⟩
    all_goals
      clear h1 h2 h3
      go_enter Try.func21, Try.ntmps21
      go_wp2_with fail
      refine (rnear3 w _ _ _ _ _ _).mono ?_
      rintro e w1 ⟨rfl, hb⟩
      rw [H1.out]
      obtain ⟨c0, c1, c2, c3, c4, c5, hg⟩ := hb
      have G := Lib.hid hg
      clear hg
      go_wp2
      go_ret
      exact ⟨rfl, G.out⟩
set_option maxHeartbeats 2000000 in
theorem rLess_on (ox oy ax ay bx by_ : Int) (w : World) (h1 : nearL [(ox, oy), (ax, ay), (bx, by_)] = true) (h2 : eqP ax ay ox oy = false) (h3 : eqP bx by_ ox oy = false) :
    Calls Try.prog 21 #[.agg #[.int .i64 ox, .int .i64 oy], .agg #[.int .i64 ax, .int .i64 ay], .agg #[.int .i64 bx, .int .i64 by_]] w fun e w' => e = .returned (.bool (decide (qt (ax - ox) (ay - oy) < qt (bx - ox) (by_ - oy)) || (decide (qt (ax - ox) (ay - oy) = qt (bx - ox) (by_ - oy)) && decide (0 < tw ox oy ax ay bx by_)))) ∧ Below w.heap.size w w' := by
  have HN := Lib.hid ((near3_iff ox oy ax ay bx by_).1 h1)
  have H1 := Lib.hid h1
  have LA := Lib.hid (fun v => rquarter_any ox oy ax ay v HN.out.1 HN.out.2.1)
  have LB := Lib.hid (fun v => rquarter_any ox oy bx by_ v HN.out.1 HN.out.2.2)
  have TW := Lib.hid (fun v => rcross_any ox oy ax ay ox oy bx by_ v HN.out.1 HN.out.2.1 HN.out.1 HN.out.2.2)
  rw [tw_cr] at TW
  generalize qt (ax - ox) (ay - oy) = p at *
  generalize qt (bx - ox) (by_ - oy) = q at *
  generalize tw ox oy ax ay bx by_ = t at *
  obtain ⟨R, hR⟩ : ∃ R, (decide (p < q) || (decide (p = q) && decide (0 < t))) = R := ⟨_, rfl⟩
  rw [hR]
  have HR := Lib.hid hR
  clear hR
  rcases eqP_false h2 with hx | ⟨rfl, hx⟩ <;> rcases eqP_false h3 with hy | ⟨hz, hy⟩
  all_goals
    try subst hz
    clear h1 h2 h3
    go_enter Try.func21, Try.ntmps21
    go_wp2_with fail
    refine (rnear3 w _ _ _ _ _ _).mono ?_
    rintro e w1 ⟨rfl, hb⟩
    rw [H1.out]
    obtain ⟨c0, c1, c2, c3, c4, c5, hg⟩ := hb
    have G := Lib.hid hg
    clear hg
    have L0 := fun m : Later w1 => m.cell c0
    have L1 := fun m : Later w1 => m.cell c1
    have L2 := fun m : Later w1 => m.cell c2
    have L3 := fun m : Later w1 => m.cell c3
    have L4 := fun m : Later w1 => m.cell c4
    have L5 := fun m : Later w1 => m.cell c5
    go_wp2_with fail
    refine region_later (by kernel_rfl) (by kernel_rfl) ?_
    (go_big_quiet_want; go_big_quiet_op; go_big_quiet_on)
    (go_big_quiet_want; go_big_quiet_op; go_big_quiet_on)
    (go_big_quiet_want; go_big_quiet_op; go_big_quiet_call (exact later_of (LA.out _)))
    (go_big_quiet_want; go_big_quiet_op; go_big_quiet_on)
    (go_big_quiet_want; go_big_quiet_op; go_big_quiet_on)
    (go_big_quiet_want; go_big_quiet_op; go_big_quiet_call (exact later_of (LB.out _)))
    (go_big_quiet_want; go_big_quiet_op; go_big_quiet_on)
    (go_big_quiet_want; go_big_quiet_op; go_big_quiet_on)
    refine wpQuiet_nil ?_
    refine later_end ?_
    intro m
    have d0 := L0 m
    have d1 := L1 m
    have d2 := L2 m
    have d3 := L3 m
    have d4 := L4 m
    have d5 := L5 m
    have G2 : Hid (Below w.heap.size w m.wd) := Lib.hid (below_on G.out m.below)
    clear L0 L1 L2 L3 L4 L5 c0 c1 c2 c3 c4 c5
    generalize m.wd = u at *
    rcases Int.lt_trichotomy p q with h | h | h
    · have e1 : decide (p < q) = true := decide_eq_true h
      have HR1 : Hid (true = R) := Lib.hid (by rw [← HR.out, e1]; rfl)
      clear HR
      go_wp2
      go_ret
      exact ⟨ret_bool' HR1.out, G2.out⟩
    · subst h
      have e1 : decide (p < p) = false := by simp
      have HR1 : Hid (decide (0 < t) = R) := Lib.hid (by rw [← HR.out, e1]; simp)
      clear HR
      go_wp2_with fail
      refine (TW.out _).mono ?_
      rintro e w2 ⟨rfl, hb2⟩
      have F2 := Lib.hid (below_on G2.out hb2)
      clear hb2
      go_wp2
      go_ret
      exact ⟨ret_bool' HR1.out, F2.out⟩
    · have e1 : decide (p < q) = false := by simp; omega
      have e2 : decide (p = q) = false := by simp; omega
      have e3 : (p == q) = false := by simp; omega
      have HR1 : Hid (false = R) := Lib.hid (by rw [← HR.out, e1, e2]; rfl)
      clear HR e2
      go_wp2
      go_ret
      exact ⟨ret_bool' HR1.out, G2.out⟩
theorem rLess_any (ox oy ax ay bx by_ : Int) (w : World) :
    Calls Try.prog 21 #[.agg #[.int .i64 ox, .int .i64 oy], .agg #[.int .i64 ax, .int .i64 ay], .agg #[.int .i64 bx, .int .i64 by_]] w fun e w' => e = .returned (.bool (lsF ox oy ax ay bx by_)) ∧ Below w.heap.size w w' := by
  unfold lsF
  cases h1 : nearL [(ox, oy), (ax, ay), (bx, by_)]
  · rw [if_neg (by simp)]; exact rLess_off ox oy ax ay bx by_ w (.inl h1)
  · cases h2 : eqP ax ay ox oy
    · cases h3 : eqP bx by_ ox oy
      · rw [if_pos ⟨rfl, rfl, rfl⟩, ← qt_lw h2 h3]; exact rLess_on ox oy ax ay bx by_ w h1 h2 h3
      · rw [if_neg (by simp)]; exact rLess_off ox oy ax ay bx by_ w (.inr (.inr ⟨h1, h2, h3⟩))
    · rw [if_neg (by simp)]; exact rLess_off ox oy ax ay bx by_ w (.inr (.inl ⟨h1, h2⟩))
end Go.Proofs.Ytkojdifgmppfpaa
