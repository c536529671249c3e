/- The contract of the reference's Meet: near points. -/
import Derived.Test.YtpdiojndfckmfaaGeoQ
import Derived.Deep.DeepCutAuto
namespace Go.Proofs.Ytpdiojndfckmfaa
open Go.RowKit
open Num Geo
set_option linter.unusedVariables false
theorem cr_in {ax ay bx by_ cx cy dx dy : Int} (ha : Nr ax ay) (hb : Nr bx by_) (hc : Nr cx cy) (hd : Nr dx dy) : -35184372088832 ≤ cr ax ay bx by_ cx cy dx dy ∧ cr ax ay bx by_ cx cy dx dy ≤ 35184372088832 := by
  unfold Nr at ha hb hc hd
  have p1 := prod_in (a := bx - ax) (b := dy - cy) (by omega) (by omega)
  have p2 := prod_in (a := by_ - ay) (b := dx - cx) (by omega) (by omega)
  unfold cr; omega
def bxN (n u : Int) : Bool := decide (0 ≤ u) && decide (u ≤ n)
theorem bt_pos {n p q : Int} (h : ¬ n < 0) : b2i (btN n p && btN n q) = b2i (bxN n p && bxN n q) := by
  unfold btN bxN; rw [if_neg h, if_neg h]
theorem bt_neg {N S T : Int} (h : -N < 0) : b2i (btN (-N) (-S) && btN (-N) (-T)) = b2i (bxN N S && bxN N T) := by
  unfold btN bxN; rw [if_pos h, if_pos h]; simp only [Int.neg_neg]
theorem bx2 (n s t : Int) : (b2i (bxN n s && bxN n t) = 1 ∧ decide (0 ≤ s) = true ∧ decide (s ≤ n) = true ∧ decide (0 ≤ t) = true ∧ decide (t ≤ n) = true) ∨
    (b2i (bxN n s && bxN n t) = 0 ∧ decide (0 ≤ s) = false) ∨
    (b2i (bxN n s && bxN n t) = 0 ∧ decide (0 ≤ s) = true ∧ decide (s ≤ n) = false) ∨
    (b2i (bxN n s && bxN n t) = 0 ∧ decide (0 ≤ s) = true ∧ decide (s ≤ n) = true ∧ decide (0 ≤ t) = false) ∨
    (b2i (bxN n s && bxN n t) = 0 ∧ decide (0 ≤ s) = true ∧ decide (s ≤ n) = true ∧ decide (0 ≤ t) = true ∧ decide (t ≤ n) = false) := by
  unfold bxN b2i
  generalize decide (0 ≤ s) = a
  generalize decide (s ≤ n) = b
  generalize decide (0 ≤ t) = c
  generalize decide (t ≤ n) = d
  cases a <;> cases b <;> cases c <;> cases d <;> simp
set_option maxRecDepth 100000 in
set_option maxHeartbeats 4000000 in
theorem rMeet_in (ax ay bx by_ cx cy dx dy : Int) (w : World) (hn : nearL [(ax, ay), (bx, by_), (cx, cy), (dx, dy)] = true) : Calls Try.prog 8 #[.agg #[.int .i64 ax, .int .i64 ay], .agg #[.int .i64 bx, .int .i64 by_], .agg #[.int .i64 cx, .int .i64 cy], .agg #[.int .i64 dx, .int .i64 dy]] w fun e w' => e = .returned (.int .i64 (rmF ax ay bx by_ cx cy dx dy)) ∧ Below w.heap.size w w' := by
  obtain ⟨na, nb, nc, nd⟩ := (near4_iff _ _ _ _ _ _ _ _).mp hn
  obtain ⟨R, hR⟩ : ∃ R, rmF ax ay bx by_ cx cy dx dy = R := ⟨_, rfl⟩
  rw [hR]
  unfold rmF at hR
  rw [if_pos hn] at hR
  have HR := Lib.hid hR
  clear hR
  have C0 := Lib.hid (fun v => rcross_any ax ay bx by_ cx cy dx dy v na nb nc nd)
  have C1 := Lib.hid (fun v => rcross_any ax ay bx by_ ax ay cx cy v na nb na nc)
  have C2 := Lib.hid (fun v => rcross_any ax ay bx by_ ax ay dx dy v na nb na nd)
  have C3 := Lib.hid (fun v => rcross_any cx cy dx dy cx cy ax ay v nc nd nc na)
  have C4 := Lib.hid (fun v => rcross_any cx cy dx dy cx cy bx by_ v nc nd nc nb)
  have CU := Lib.hid (fun v => rcross_any ax ay cx cy cx cy dx dy v na nc nc nd)
  have CV := Lib.hid (fun v => rcross_any ax ay cx cy ax ay bx by_ v na nc na nb)
  simp only [tw_cr] at C1 C2 C3 C4
  have HBD := Lib.hid (And.intro (cr_in na nb nc nd) (And.intro (cr_in na nc nc nd) (cr_in na nc na nb)))
  go_enter Try.func8, Try.ntmps8
  go_wp2_with fail
  refine (rnear4 w ax ay bx by_ cx cy dx dy).mono ?_
  rintro e w1 ⟨rfl, HB⟩
  rw [hn]
  have HB := Lib.hid HB
  clear hn na nb nc nd
  go_upto_region 3 with fail
  go_cut [31] (fun v wc => Hid (Has4 w wc ax ay bx by_ cx cy dx dy) ∧ v = .bool (eqP ax ay bx by_ && eqP cx cy dx dy && !eqP ax ay cx cy))
  case first =>
    obtain ⟨c0, c1, c2, c3, c4, c5, c6, c7, hg⟩ := HB.out
    clear hg HR
    cases hp : eqP ax ay bx by_
    · have HP := Lib.hid hp
      rcases eqP_false hp with ip | ⟨rfl, ip⟩
      all_goals
        clear hp
        go_wp2_with fail
        go_meet
        exact ⟨HB, by rw [HP.out]; rfl⟩
    · have HP := Lib.hid hp
      obtain ⟨rfl, rfl⟩ := eqP_true hp
      clear hp
      cases hq : eqP cx cy dx dy
      · have HQ := Lib.hid hq
        rcases eqP_false hq with ip | ⟨rfl, ip⟩
        all_goals
          clear hq
          go_wp2_with fail
          go_meet
          exact ⟨HB, by rw [HP.out, HQ.out]; rfl⟩
      · have HQ := Lib.hid hq
        obtain ⟨rfl, rfl⟩ := eqP_true hq
        clear hq
        cases hr : eqP ax ay cx cy
        · have HS := Lib.hid hr
          rcases eqP_false hr with ip | ⟨rfl, ip⟩
          all_goals
            clear hr
            go_wp2_with fail
            go_meet
            exact ⟨HB, by rw [HP.out, HQ.out, HS.out]; rfl⟩
        · have HS := Lib.hid hr
          obtain ⟨rfl, rfl⟩ := eqP_true hr
          clear hr
          go_wp2_with fail
          go_meet
          exact ⟨HB, by rw [HP.out]; rfl⟩
  case rest =>
  clear HB
  obtain ⟨HB, rfl⟩ := hcut
  generalize wc = w2 at *
  obtain ⟨c0, c1, c2, c3, c4, c5, c6, c7, hg⟩ := HB.out
  have G := Lib.hid hg
  clear hg
  by_cases hz : (eqP ax ay bx by_ && eqP cx cy dx dy && !eqP ax ay cx cy) = true
  · have HR0 : Hid ((0 : Int) = R) := Lib.hid (by
      have h := HR.out
      rw [if_pos (by simpa [and_assoc] using hz)] at h
      exact h)
    rw [hz]
    clear hz HR c0 c1 c2 c3 c4 c5 c6 c7
    go_wp2
    go_ret
    exact ⟨ret_int HR0.out, G.out⟩
  · have HR1 := Lib.hid ((if_neg (by simpa [and_assoc] using hz)).symm.trans HR.out)
    rw [Bool.eq_false_iff.mpr hz]
    clear hz HR
    clear G
    generalize cr ax ay bx by_ cx cy dx dy = n at *
    generalize tw ax ay bx by_ cx cy = t1 at *
    generalize tw ax ay bx by_ dx dy = t2 at *
    generalize tw cx cy dx dy ax ay = t3 at *
    generalize tw cx cy dx dy bx by_ = t4 at *
    generalize cr ax ay cx cy cx cy dx dy = p at *
    generalize cr ax ay cx cy ax ay bx by_ = q at *
    go_wp2_with fail
    refine (C0.out _).mono ?_
    rintro e w3 ⟨rfl, hb⟩
    have HC := Lib.hid (HB.out.later hb)
    clear HB hb c0 c1 c2 c3 c4 c5 c6 c7
    obtain ⟨c0, c1, c2, c3, c4, c5, c6, c7, hg⟩ := HC.out
    clear hg
    by_cases hz : n = 0
    · subst hz
      have HR2 := Lib.hid ((if_pos rfl).symm.trans HR1.out)
      clear HR1 CU CV C0
      go_wp2_with fail
      refine (C1.out _).mono ?_
      rintro e w4 ⟨rfl, hb⟩
      have HD := Lib.hid (HC.out.later hb)
      clear HC hb c0 c1 c2 c3 c4 c5 c6 c7
      obtain ⟨c0, c1, c2, c3, c4, c5, c6, c7, hg⟩ := HD.out
      have G := Lib.hid hg
      clear hg
      by_cases h1 : t1 = 0
      · subst h1
        go_wp2_with fail
        refine (C2.out _).mono ?_
        rintro e w5 ⟨rfl, hb⟩
        have HE := Lib.hid (HD.out.later hb)
        clear HD hb c0 c1 c2 c3 c4 c5 c6 c7 G
        obtain ⟨c0, c1, c2, c3, c4, c5, c6, c7, hg⟩ := HE.out
        have G := Lib.hid hg
        clear hg
        by_cases h2 : t2 = 0
        · subst h2
          go_wp2_with fail
          refine (C3.out _).mono ?_
          rintro e w6 ⟨rfl, hb⟩
          have HF := Lib.hid (HE.out.later hb)
          clear HE hb c0 c1 c2 c3 c4 c5 c6 c7 G
          obtain ⟨c0, c1, c2, c3, c4, c5, c6, c7, hg⟩ := HF.out
          have G := Lib.hid hg
          clear hg
          by_cases h3 : t3 = 0
          · subst h3
            go_wp2_with fail
            refine (C4.out _).mono ?_
            rintro e w7 ⟨rfl, hb⟩
            have HG := Lib.hid (HF.out.later hb)
            clear HF hb c0 c1 c2 c3 c4 c5 c6 c7 G
            obtain ⟨c0, c1, c2, c3, c4, c5, c6, c7, hg⟩ := HG.out
            have G := Lib.hid hg
            clear hg
            by_cases h4 : t4 = 0
            · subst h4
              have HR3 := Lib.hid ((if_neg (by simp)).symm.trans HR2.out)
              clear HR2
              go_wp2_with fail
              refine (rshared_any ax ay bx by_ cx cy dx dy _).mono ?_
              rintro e w8 ⟨rfl, hb⟩
              have G2 := Lib.hid (below_on G.out hb)
              clear hb
              go_wp2
              go_ret
              exact ⟨ret_int HR3.out, G2.out⟩
            · have HR3 := Lib.hid ((if_pos (Or.inr (Or.inr (Or.inr h4)))).symm.trans HR2.out)
              have e1 : (t4 == 0) = false := by simpa using h4
              have e2 : (t4 != 0) = true := by simpa using h4
              clear HR2 h4
              go_wp2
              go_ret
              exact ⟨ret_int HR3.out, G.out⟩
          · have HR3 := Lib.hid ((if_pos (Or.inr (Or.inr (Or.inl h3)))).symm.trans HR2.out)
            have e1 : (t3 == 0) = false := by simpa using h3
            have e2 : (t3 != 0) = true := by simpa using h3
            clear HR2 h3
            go_wp2
            go_ret
            exact ⟨ret_int HR3.out, G.out⟩
        · have HR3 := Lib.hid ((if_pos (Or.inr (Or.inl h2))).symm.trans HR2.out)
          have e1 : (t2 == 0) = false := by simpa using h2
          have e2 : (t2 != 0) = true := by simpa using h2
          clear HR2 h2
          go_wp2
          go_ret
          exact ⟨ret_int HR3.out, G.out⟩
      · have HR3 := Lib.hid ((if_pos (Or.inl h1)).symm.trans HR2.out)
        have e1 : (t1 == 0) = false := by simpa using h1
        have e2 : (t1 != 0) = true := by simpa using h1
        clear HR2 h1
        go_wp2
        go_ret
        exact ⟨ret_int HR3.out, G.out⟩
    · have HR2 := Lib.hid ((if_neg hz).symm.trans HR1.out)
      have e1 : (n == 0) = false := by simpa using hz
      clear HR1 hz C1 C2 C3 C4
      have L0 := fun k : Later w3 => k.cell c0
      have L1 := fun k : Later w3 => k.cell c1
      have L2 := fun k : Later w3 => k.cell c2
      have L3 := fun k : Later w3 => k.cell c3
      have L4 := fun k : Later w3 => k.cell c4
      have L5 := fun k : Later w3 => k.cell c5
      have L6 := fun k : Later w3 => k.cell c6
      have L7 := fun k : Later w3 => k.cell c7
      go_wp2_with fail
      refine region_later (by kernel_rfl) (by kernel_rfl) ?_
      (go_big_quiet_want; go_big_quiet_op; go_big_quiet_on)
      (go_big_quiet_want; go_big_quiet_op; go_big_quiet_on)
      (go_big_quiet_want; go_big_quiet_op; go_big_quiet_on)
      (go_big_quiet_want; go_big_quiet_op; go_big_quiet_on)
      (go_big_quiet_want; go_big_quiet_op; go_big_quiet_call (exact later_of (CU.out _)))
      (go_big_quiet_want; go_big_quiet_op; go_big_quiet_on)
      (go_big_quiet_want; go_big_quiet_op; go_big_quiet_on)
      (go_big_quiet_want; go_big_quiet_op; go_big_quiet_on)
      (go_big_quiet_want; go_big_quiet_op; go_big_quiet_on)
      (go_big_quiet_want; go_big_quiet_op; go_big_quiet_call (exact later_of (CV.out _)))
      (go_big_quiet_want; go_big_quiet_op; go_big_quiet_on)
      (go_big_quiet_want; go_big_quiet_op; go_big_quiet_on)
      refine wpQuiet_nil ?_
      refine later_end ?_
      intro k
      have G := Lib.hid (below_on HC.out.2.2.2.2.2.2.2.2 k.below)
      clear HC L0 L1 L2 L3 L4 L5 L6 L7 c0 c1 c2 c3 c4 c5 c6 c7
      generalize k.wd = u at *
      by_cases hn : n < 0
      · obtain ⟨N, rfl⟩ : ∃ N, n = -N := ⟨-n, by omega⟩
        obtain ⟨S, rfl⟩ : ∃ S, p = -S := ⟨-p, by omega⟩
        obtain ⟨T, rfl⟩ : ∃ T, q = -T := ⟨-q, by omega⟩
        have hN : 0 < N := by omega
        have d0 : decide (0 < N) = true := by simpa using hN
        have d0' : decide (-N < 0) = true := by simpa using hn
        have B := bt_neg hn (S := S) (T := T)
        rw [B] at HR2
        obtain ⟨bN, bS, bT⟩ := HBD.out
        have q1 : -9223372036854775807 ≤ N := by omega
        have q2 : N ≤ 9223372036854775807 := by omega
        have q3 : -9223372036854775807 ≤ S := by omega
        have q4 : S ≤ 9223372036854775807 := by omega
        have q5 : -9223372036854775807 ≤ T := by omega
        have q6 : T ≤ 9223372036854775807 := by omega
        clear B hn hN bN bS bT HBD
        rcases bx2 N S T with ⟨hv, d1, d2, d3, d4⟩ | ⟨hv, d1⟩ | ⟨hv, d1, d2⟩ | ⟨hv, d1, d2, d3⟩ | ⟨hv, d1, d2, d3, d4⟩
        all_goals
          rw [hv] at HR2
          clear hv
          go_wp2
          go_ret
          exact ⟨ret_int HR2.out, G.out⟩
      · have d0 : decide (n < 0) = false := by simpa using hn
        rw [bt_pos hn] at HR2
        clear HBD hn
        rcases bx2 n p q with ⟨hv, d1, d2, d3, d4⟩ | ⟨hv, d1⟩ | ⟨hv, d1, d2⟩ | ⟨hv, d1, d2, d3⟩ | ⟨hv, d1, d2, d3, d4⟩
        all_goals
          rw [hv] at HR2
          clear hv
          go_wp2
          go_ret
          exact ⟨ret_int HR2.out, G.out⟩
theorem rMeet_any (ax ay bx by_ cx cy dx dy : Int) (w : World) : Calls Try.prog 8 #[.agg #[.int .i64 ax, .int .i64 ay], .agg #[.int .i64 bx, .int .i64 by_], .agg #[.int .i64 cx, .int .i64 cy], .agg #[.int .i64 dx, .int .i64 dy]] w fun e w' => e = .returned (.int .i64 (rmF ax ay bx by_ cx cy dx dy)) ∧ Below w.heap.size w w' := by
  cases hn : nearL [(ax, ay), (bx, by_), (cx, cy), (dx, dy)]
  · have h : rmF ax ay bx by_ cx cy dx dy = 0 := by unfold rmF; rw [hn]; rfl
    rw [h]; exact rMeet_off ax ay bx by_ cx cy dx dy w hn
  · exact rMeet_in ax ay bx by_ cx cy dx dy w hn
end Go.Proofs.Ytpdiojndfckmfaa
