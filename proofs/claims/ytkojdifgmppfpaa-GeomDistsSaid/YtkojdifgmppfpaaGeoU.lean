/- The contract of the reference's Dist: inside, and the whole. -/
import Derived.Test.YtkojdifgmppfpaaGeoT
namespace Go.Proofs.Ytkojdifgmppfpaa
open Go.RowKit
open Num Geo
set_option linter.unusedVariables false
theorem qn (a g : Nat) (h : a < 9223372036854775808) : wrap64 ((a : Int) / (g : Int)) = ((a / g : Nat) : Int) := by
  have h1 : (a : Int) / (g : Int) = ((a / g : Nat) : Int) := rfl
  have h2 := Nat.div_le_self a g
  rw [h1]
  exact w64n _ (by omega)
/-- the numbers that the reference reckons -/
theorem ref_pack {C L : Nat} (hC : 0 < C) (hC' : C ≤ 35184372088832) (hL0 : 0 < L) (hL1 : L ≤ 35184372088832) : ∃ g N h x y den Y : Nat, Nat.gcd C L = g ∧ Nat.gcd C N = h ∧
    wrap64 ((L : Int) / (g : Int)) = (N : Int) ∧ wrap64 ((C : Int) / (g : Int)) = (x : Int) ∧ wrap64 ((C : Int) / (h : Int)) = (y : Int) ∧ wrap64 ((N : Int) / (h : Int)) = (den : Int) ∧ (9223372036854775807 : Int) / (y : Int) = (Y : Int) ∧
    1 ≤ g ∧ 1 ≤ N ∧ N ≤ 35184372088832 ∧ 1 ≤ h ∧ 1 ≤ y ∧ y ≤ 35184372088832 ∧ x ≤ 35184372088832 ∧
    (Y < x → frN (C * C) L = ((C * C / L : Nat) : Int) ∧ frD (C * C) L = 1) ∧ (¬ Y < x → frN (C * C) L = ((x * y : Nat) : Int) ∧ frD (C * C) L = (den : Int) ∧ x * y ≤ 9223372036854775807) := by
  have hg : 0 < Nat.gcd C L := Nat.gcd_pos_of_pos_right _ hL0
  have hN : 0 < L / Nat.gcd C L := Nat.div_pos (Nat.gcd_le_right _ hL0) hg
  have hN' : L / Nat.gcd C L ≤ L := Nat.div_le_self _ _
  have hh : 0 < Nat.gcd C (L / Nat.gcd C L) := Nat.gcd_pos_of_pos_right _ hN
  have hy : 0 < C / Nat.gcd C (L / Nat.gcd C L) := Nat.div_pos (Nat.gcd_le_left _ hC) hh
  have hy' : C / Nat.gcd C (L / Nat.gcd C L) ≤ C := Nat.div_le_self _ _
  have hx' : C / Nat.gcd C L ≤ C := Nat.div_le_self _ _
  obtain ⟨e1, e2⟩ := rg_fr C L hC hL0
  refine ⟨_, _, _, _, _, _, 9223372036854775807 / (C / Nat.gcd C (L / Nat.gcd C L)), rfl, rfl, qn L _ (by omega), qn C _ (by omega), qn C _ (by omega), qn _ _ (by omega), rfl, hg, hN, by omega, hh, hy, by omega, by omega, ?_, ?_⟩
  · intro h
    rw [← e1, ← e2]; unfold rgN rgD
    rw [if_pos h, if_pos h]; exact ⟨rfl, rfl⟩
  · intro h
    rw [← e1, ← e2]; unfold rgN rgD
    rw [if_neg h, if_neg h]
    refine ⟨rfl, rfl, ?_⟩
    rw [Nat.div_lt_iff_lt_mul hy] at h
    omega
theorem fr_zero (L : Nat) (hL : 0 < L) : frN 0 L = 0 ∧ frD 0 L = 1 := by
  unfold frN frD dN dW dG
  rw [Nat.zero_mod, Nat.gcd_zero_left, Nat.zero_div, Nat.zero_mul, Nat.div_self hL]
  simp
theorem abs_sq (t : Int) : t * t = ((t.natAbs * t.natAbs : Nat) : Int) := Int.natAbs_mul_self.symm
theorem tw_in {ax ay bx by_ cx cy : Int} (ha : Nr ax ay) (hb : Nr bx by_) (hc : Nr cx cy) : -35184372088832 ≤ tw ax ay bx by_ cx cy ∧ tw ax ay bx by_ cx cy ≤ 35184372088832 := by
  unfold Nr at ha hb hc
  have p1 := prod_in (a := bx - ax) (b := cy - ay) (by omega) (by omega)
  have p2 := prod_in (a := by_ - ay) (b := cx - ax) (by omega) (by omega)
  unfold tw; omega
set_option maxRecDepth 100000 in
set_option maxHeartbeats 2000000 in
theorem rDist_mid (ax ay bx by_ cx cy : Int) (w : World) (h : nearL [(ax, ay), (bx, by_), (cx, cy)] = true) (h1 : 0 < al ax ay bx by_ cx cy) (h2 : al ax ay bx by_ cx cy < sq ax ay bx by_) :
    Calls Try.prog 25 #[.agg #[.int .i64 ax, .int .i64 ay], .agg #[.int .i64 bx, .int .i64 by_], .agg #[.int .i64 cx, .int .i64 cy]] w (DistOut (frN (tw ax ay bx by_ cx cy * tw ax ay bx by_ cx cy).toNat (sq ax ay bx by_).toNat) (frD (tw ax ay bx by_ cx cy * tw ax ay bx by_ cx cy).toNat (sq ax ay bx by_).toNat) w) := by
  have H1 := Lib.hid h
  have hn := (near3_iff ax ay bx by_ cx cy).1 h
  have SQ : ∀ v, Calls Try.prog 35 #[.agg #[.int .i64 ax, .int .i64 ay], .agg #[.int .i64 bx, .int .i64 by_], .agg #[.int .i64 ax, .int .i64 ay], .agg #[.int .i64 bx, .int .i64 by_]] v fun e w' => e = .returned (.int .i64 (sq ax ay bx by_)) ∧ Below v.heap.size v w' := fun v => rdot_any ax ay bx by_ ax ay bx by_ v hn.1 hn.2.1 hn.1 hn.2.1
  have AL : ∀ v, Calls Try.prog 35 #[.agg #[.int .i64 ax, .int .i64 ay], .agg #[.int .i64 bx, .int .i64 by_], .agg #[.int .i64 ax, .int .i64 ay], .agg #[.int .i64 cx, .int .i64 cy]] v fun e w' => e = .returned (.int .i64 (al ax ay bx by_ cx cy)) ∧ Below v.heap.size v w' := fun v => rdot_any ax ay bx by_ ax ay cx cy v hn.1 hn.2.1 hn.1 hn.2.2
  have CR : ∀ v, Calls Try.prog 34 #[.agg #[.int .i64 ax, .int .i64 ay], .agg #[.int .i64 bx, .int .i64 by_], .agg #[.int .i64 ax, .int .i64 ay], .agg #[.int .i64 cx, .int .i64 cy]] v fun e w' => e = .returned (.int .i64 (tw ax ay bx by_ cx cy)) ∧ Below v.heap.size v w' := fun v => rcross_any ax ay bx by_ ax ay cx cy v hn.1 hn.2.1 hn.1 hn.2.2
  have SQ := Lib.hid SQ
  have AL := Lib.hid AL
  have CR := Lib.hid CR
  obtain ⟨T, L, eT, eL, hL0, hL1, hW⟩ := mid_nums hn.1 hn.2.1 hn.2.2 h1 h2
  have tb := tw_in hn.1 hn.2.1 hn.2.2
  rw [eT, eL]
  rw [eL] at SQ h2
  rw [show ((T : Int)).toNat = T by omega, show ((L : Int)).toNat = L by omega]
  generalize al ax ay bx by_ cx cy = s at *
  generalize tw ax ay bx by_ cx cy = t at *
  rw [abs_sq] at eT
  obtain rfl : t.natAbs * t.natAbs = T := by omega
  obtain ⟨C, hC⟩ : ∃ C, t.natAbs = C := ⟨_, rfl⟩
  rw [hC] at hW ⊢
  have k5 : decide ((L : Int) ≤ s) = false := by simp; omega
  have k6 : decide (s ≤ 0) = false := by simp; omega
  have HL0 := Lib.hid hL0
  have HL1 := Lib.hid hL1
  have HW := Lib.hid hW
  have HT := Lib.hid tb
  have h2' : s < (L : Int) := h2
  clear h hn eT eL hL0 hL1 hW h2 tb
  go_enter Try.func25, Try.ntmps25
  go_wp2_with fail
  refine (rnearD w ax ay bx by_ cx cy).mono ?_
  rintro e w1 ⟨rfl, HB⟩
  rw [H1.out]
  have HB := Lib.hid HB
  obtain ⟨⟨c0, c1, c2, c3, c4, c5, -⟩, ⟨d0, d1, y0⟩⟩ := HB.out
  have L0 := fun k : Later w1 => k.cell c0
  have L1 := fun k : Later w1 => k.cell c1
  have L2 := fun k : Later w1 => k.cell c2
  have L3 := fun k : Later w1 => k.cell c3
  have L4 := fun k : Later w1 => k.cell c4
  have L5 := fun k : Later w1 => k.cell c5
  go_wp2_with fail
  refine region_later (by kernel_rfl) (by kernel_rfl) ?_
  (go_big_quiet_want; go_big_quiet_op; go_big_quiet_on)
  (go_big_quiet_want; go_big_quiet_op; go_big_quiet_on)
  (go_big_quiet_want; go_big_quiet_op; go_big_quiet_on)
  (go_big_quiet_want; go_big_quiet_op; go_big_quiet_on)
  (go_big_quiet_want; go_big_quiet_op; go_big_quiet_call (exact later_of (SQ.out _)))
  (go_big_quiet_want; go_big_quiet_op; go_big_quiet_on)
  (go_big_quiet_want; go_big_quiet_op; go_big_quiet_on)
  (go_big_quiet_want; go_big_quiet_op; go_big_quiet_on)
  (go_big_quiet_want; go_big_quiet_op; go_big_quiet_on)
  (go_big_quiet_want; go_big_quiet_op; go_big_quiet_call (exact later_of (AL.out _)))
  (go_big_quiet_want; go_big_quiet_op; go_big_quiet_on)
  (go_big_quiet_want; go_big_quiet_op; go_big_quiet_on)
  refine wpQuiet_nil ?_
  refine later_end ?_
  intro k
  have HC := Lib.hid (HB.out.later k.below)
  clear HB L0 L1 L2 L3 L4 L5 c0 c1 c2 c3 c4 c5 d0 d1 y0
  generalize k.wd = u at *
  clear k
  obtain ⟨⟨c0, c1, c2, c3, c4, c5, -⟩, ⟨d0, d1, y0⟩⟩ := HC.out
  go_wp2_with fail
  refine (CR.out _).mono ?_
  rintro e w3 ⟨rfl, hb3⟩
  have HD := Lib.hid (HC.out.later hb3)
  clear HC hb3 c0 c1 c2 c3 c4 c5 d0 d1 y0 AL CR SQ
  have HS : (t = 0 ∧ C = 0) ∨ (t = (C : Int) ∧ 0 < C) ∨ (t = -(C : Int) ∧ 0 < C) := by omega
  have HCB : C ≤ 35184372088832 := by have := HT.out; omega
  rcases HS with ⟨rfl, rfl⟩ | HS
  · have FZ := Lib.hid (fr_zero L HL0.out)
    clear HCB hC
    obtain ⟨⟨c0, c1, c2, c3, c4, c5, -⟩, ⟨d0, d1, y0⟩⟩ := HD.out
    go_wp2
    obtain ⟨⟨k0, k1, k2⟩, k3⟩ := dist_end HD.out 0 1
    rw [show 0 * 0 = 0 from rfl, FZ.out.1, FZ.out.2]
    exact bodyPost_ret (v := .agg #[.int .i64 0, .int .i64 1]) (by simp [results, Try.results25, go_sem, k0, k1]) rfl ⟨rfl, k3⟩
  · have hC0 : 0 < C := by omega
    clear hC
    obtain ⟨g, N, h, x, y, den, Y, eg, eh, q1, q2, q3, q4, q5, b1, b2, b3, b4, b5, b6, b7, F1, F2⟩ := ref_pack hC0 HCB HL0.out HL1.out
    have G1 := Lib.hid (fun v => rgcd_any C L v (by omega) (by have := HL1.out; omega))
    have G2 := Lib.hid (fun v => rgcd_any C N v (by omega) (by omega))
    have R1 := Lib.hid (fun v => rsquare_any C L v (by omega) HL0.out HL1.out HW.out)
    rw [eg] at G1
    rw [eh] at G2
    have F1 := Lib.hid F1
    have F2 := Lib.hid F2
    have HS := Lib.hid HS
    generalize frN (C * C) L = fN at *
    generalize frD (C * C) L = fD at *
    generalize C * C / L = sqv at *
    clear eg eh HW HL1 HT
    have e0 : ((C : Int) == 0) = false := by simp; omega
    have e1 : decide ((C : Int) < 0) = false := by simp
    have e2 : decide (-(C : Int) < 0) = true := by simp; omega
    have e3 : decide (0 < (C : Int)) = true := by simp; omega
    have e4 : (1 : Int) ≤ (C : Int) := by omega
    have e5 : (C : Int) ≤ 35184372088832 := by omega
    have g0 : ((g : Int) = 0) = False := by simp; omega
    have g1 : (1 : Int) ≤ (g : Int) := by omega
    have h0 : ((h : Int) = 0) = False := by simp; omega
    have h1' : (1 : Int) ≤ (h : Int) := by omega
    have y0 : ((y : Int) = 0) = False := by simp; omega
    have y1 : (1 : Int) ≤ (y : Int) := by omega
    have B3 := Lib.hid b3
    have B67 := Lib.hid (And.intro b6 b7)
    clear b1 b2 b3 b4 b5 b6 b7 HCB
    rcases HS.out with ⟨rfl, -⟩ | ⟨rfl, -⟩
    all_goals
      clear HS
      go_wp2_with fail
      refine (G1.out _).mono ?_
      rintro e w4 ⟨rfl, n4, rfl⟩
      go_wp2_with fail
      refine (G2.out _).mono ?_
      rintro e w5 ⟨rfl, n5, rfl⟩
      have HE := Lib.hid (HD.out.later (show Below w3.heap.size w3 ((w3.drewN n4).drewN n5) from below_dn (below_dn (Below.refl _ _) _) _))
      generalize (w3.drewN n4).drewN n5 = v at *
      clear HD G1 G2
      go_wp2_with fail
      go_quiet (fail)
      simp only [q2, q3, q4]
      clear q1 q2 q3 q4
      have HF := Lib.hid (HE.out.later (show Below v.heap.size v (v.drewN nq) from below_dn (Below.refl _ _) _))
      clear HE
      generalize v.drewN nq = z at *
      obtain ⟨⟨c0, c1, c2, c3, c4, c5, -⟩, ⟨d0, d1, y2⟩⟩ := HF.out
      clear c0 c1 c2 c3 c4 c5
      by_cases hY : Y < x
      · have m1 : decide (Y < x) = true := by simpa using hY
        have f := Lib.hid (F1.out hY)
        clear F1 F2 hY
        go_wp2_with fail
        refine (R1.out _).mono ?_
        rintro e w7 ⟨rfl, n7, rfl⟩
        have HG := Lib.hid (HF.out.later (show Below z.heap.size z (z.drewN n7) from below_dn (Below.refl _ _) _))
        clear HF d0 d1 y2
        generalize z.drewN n7 = z' at *
        obtain ⟨⟨c0, c1, c2, c3, c4, c5, -⟩, ⟨d0, d1, y2⟩⟩ := HG.out
        go_wp2
        obtain ⟨⟨k0, k1, k2⟩, k3⟩ := dist_end HG.out (sqv : Int) 1
        rw [f.out.1, f.out.2]
        exact bodyPost_ret (v := .agg #[.int .i64 (sqv : Int), .int .i64 1]) (by simp [results, Try.results25, go_sem, k0, k1]) rfl ⟨rfl, k3⟩
      · have m1 : decide (Y < x) = false := by simpa using hY
        have f := Lib.hid (F2.out hY)
        clear F1 F2 hY R1
        obtain ⟨Z, hZ⟩ : ∃ Z, x * y = Z := ⟨_, rfl⟩
        have E : (x : Int) * (y : Int) = (Z : Int) := by rw [← hZ]; exact (Int.natCast_mul _ _).symm
        have hZ2 : (Z : Int) ≤ 9223372036854775807 := by have := f.out.2.2; rw [hZ] at this; omega
        rw [hZ] at f
        have f := Lib.hid f.out
        clear hZ
        go_wp2
        obtain ⟨⟨k0, k1, k2⟩, k3⟩ := dist_end HF.out (Z : Int) (den : Int)
        rw [f.out.1, f.out.2.1]
        exact bodyPost_ret (v := .agg #[.int .i64 (Z : Int), .int .i64 (den : Int)]) (by simp [results, Try.results25, go_sem, k0, k1]) rfl ⟨rfl, k3⟩
theorem rDist_any (ax ay bx by_ cx cy : Int) (w : World) :
    Calls Try.prog 25 #[.agg #[.int .i64 ax, .int .i64 ay], .agg #[.int .i64 bx, .int .i64 by_], .agg #[.int .i64 cx, .int .i64 cy]] w (DistOut (dsN ax ay bx by_ cx cy) (dsD ax ay bx by_ cx cy) w) := by
  unfold dsN dsD
  cases h : nearL [(ax, ay), (bx, by_), (cx, cy)]
  · rw [if_neg (by simp), if_neg (by simp)]; exact rDist_off ax ay bx by_ cx cy w h
  · rw [if_pos rfl, if_pos rfl]
    by_cases h1 : al ax ay bx by_ cx cy ≤ 0
    · rw [if_pos h1, if_pos h1]; exact rDist_lo ax ay bx by_ cx cy w h h1
    · rw [if_neg h1, if_neg h1]
      by_cases h2 : sq ax ay bx by_ ≤ al ax ay bx by_ cx cy
      · rw [if_pos h2, if_pos h2]; exact rDist_hi ax ay bx by_ cx cy w h (by omega) h2
      · rw [if_neg h2, if_neg h2]; exact rDist_mid ax ay bx by_ cx cy w h (by omega) (by omega)
end Go.Proofs.Ytkojdifgmppfpaa
