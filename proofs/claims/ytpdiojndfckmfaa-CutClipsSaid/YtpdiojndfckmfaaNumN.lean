/- The contract of the reference's Cmp (mapsheetsref01): a continued fraction. -/
import Derived.Test.YtpdiojndfckmfaaNumL
import Derived.Test.YtpdiojndfckmfaaCutBase
import Derived.Test.YtpdiojndfckmfaaBox
namespace Go.Proofs.Ytpdiojndfckmfaa
open Go.RowKit
open Num
set_option linter.unusedVariables false
set_option maxHeartbeats 400000 in
theorem rsign_any (a b : Int) (w : World) : Calls Try.prog 67 #[.int .i64 a, .int .i64 b] w fun e w' => e = .returned (.int .i64 (sgnI (a - b))) ∧ w = w' := by
  rcases Int.lt_trichotomy a b with h | h | h
  · have e := Lib.hid (sgn_neg (x := a - b) (by omega))
    have d1 : decide (a < b) = true := by simpa using h
    go_enter Try.func67, Try.ntmps67
    go_wp2
    go_ret
    exact ⟨ret_int e.out.symm, rfl⟩
  · subst h
    have e := Lib.hid (show sgnI (a - a) = 0 by rw [Int.sub_self]; rfl)
    go_enter Try.func67, Try.ntmps67
    go_wp2
    go_ret
    exact ⟨ret_int e.out.symm, rfl⟩
  · have e := Lib.hid (sgn_pos (x := a - b) (by omega))
    have d1 : decide (a < b) = false := by simp; omega
    have d2 : decide (b < a) = true := by simpa using h
    go_enter Try.func67, Try.ntmps67
    go_wp2
    go_ret
    exact ⟨ret_int e.out.symm, rfl⟩
theorem chk_pos {a d : Int} (h : 0 < d) : chk a d = 0 := chk_zero (by omega) (by omega)
theorem rfloor_pos (a d : Int) (w : World) (h1 : I64 a) (h2 : I64 d) (h : 0 < d) :
    Calls Try.prog 66 #[.int .i64 a, .int .i64 d] w fun e w' => e = .returned (.tuple #[.int .i64 (fl a d), .int .i64 0]) ∧ ∃ n, w' = w.drewN n := by
  have := rfloor_any a d w h1 h2
  unfold flq at this
  rw [chk_pos h, if_pos rfl] at this
  exact this
set_option maxHeartbeats 1000000 in
theorem rcmp_inv1 (an ad bn bd : Int) (w : World) (h1 : I64 an) (h2 : I64 ad) (hv : vld an ad = false) :
    Calls Try.prog 43 #[.agg #[.int .i64 an, .int .i64 ad], .agg #[.int .i64 bn, .int .i64 bd]] w fun e w' => e = .returned (.int .i64 0) ∧ Below w.heap.size w w' := by
  have HV := Lib.hid hv
  clear hv
  go_enter Try.func43, Try.ntmps43
  go_wp2_with fail
  refine (rvalid_any an ad _ h1 h2).mono ?_
  rintro e w1 ⟨rfl, hb1⟩
  rw [HV.out]
  have F1 := Lib.hid (below_on (below_on (below_al w _) (below_al _ _)) hb1)
  clear hb1
  go_wp2
  go_ret
  exact ⟨rfl, F1.out⟩
set_option maxHeartbeats 1000000 in
theorem rcmp_inv2 (an ad bn bd : Int) (w : World) (h1 : I64 an) (h2 : I64 ad) (h3 : I64 bn) (h4 : I64 bd) (hv : vld an ad = true) (hv2 : vld bn bd = false) :
    Calls Try.prog 43 #[.agg #[.int .i64 an, .int .i64 ad], .agg #[.int .i64 bn, .int .i64 bd]] w fun e w' => e = .returned (.int .i64 0) ∧ Below w.heap.size w w' := by
  have HV := Lib.hid hv
  have HV2 := Lib.hid hv2
  clear hv hv2
  go_enter Try.func43, Try.ntmps43
  go_wp2_with fail
  refine (rvalid_any an ad _ h1 h2).mono ?_
  rintro e w1 ⟨rfl, hb1⟩
  rw [HV.out]
  have F1 := Lib.hid (below_on (below_on (below_al w _) (below_al _ _)) hb1)
  obtain ⟨hcl, hfz⟩ := bcell' hb1
  clear hb1
  go_wp2_with fail
  refine (rvalid_any bn bd _ h3 h4).mono ?_
  rintro e w2 ⟨rfl, hb2⟩
  rw [HV2.out]
  have F2 := Lib.hid (below_on F1.out hb2)
  clear hb2 hcl hfz
  go_wp2
  go_ret
  exact ⟨rfl, F2.out⟩
/-- the two boxes hold these numbers, and all that was there is as it was -/
def CfAt (w wr : World) (an ad bn bd : Int) : Prop :=
  wr.cell? ⟨w.heap.size, 0, none⟩ = some (.int .i64 an) ∧ wr.cell? ⟨w.heap.size, 1, none⟩ = some (.int .i64 ad) ∧
  wr.cell? ⟨w.heap.size + 1, 0, none⟩ = some (.int .i64 bn) ∧ wr.cell? ⟨w.heap.size + 1, 1, none⟩ = some (.int .i64 bd) ∧
  (∀ o, wr.frozen? ⟨w.heap.size, o, none⟩ = false) ∧ (∀ o, wr.frozen? ⟨w.heap.size + 1, o, none⟩ = false) ∧ Below w.heap.size w wr
theorem CfAt.drew {w wr : World} {an ad bn bd : Int} (h : CfAt w wr an ad bn bd) (n : Nat) : CfAt w (wr.drewN n) an ad bn bd := by
  obtain ⟨a, b, c, d, e, f, g⟩ := h
  exact ⟨a, b, c, d, e, f, below_dn g n⟩
theorem CfAt.store {w u : World} {an ad bn bd : Int} (h : CfAt w u an ad bn bd) (a b c d : Int) :
    CfAt w ((((u.setCell ⟨w.heap.size, 0, none⟩ (.int .i64 a)).setCell ⟨w.heap.size, 1, none⟩ (.int .i64 b)).setCell ⟨w.heap.size + 1, 0, none⟩ (.int .i64 c)).setCell ⟨w.heap.size + 1, 1, none⟩ (.int .i64 d)) a b c d := by
  obtain ⟨h0, h1, h2, h3, e, f, g⟩ := h
  have n1 : (⟨w.heap.size, 0, none⟩ : Addr) ≠ ⟨w.heap.size, 1, none⟩ := by simp
  have n2 : ∀ i j, (⟨w.heap.size, i, none⟩ : Addr) ≠ ⟨w.heap.size + 1, j, none⟩ := by intro i j; simp
  have n3 : ∀ i j, (⟨w.heap.size + 1, i, none⟩ : Addr) ≠ ⟨w.heap.size, j, none⟩ := by intro i j; simp
  have n4 : (⟨w.heap.size + 1, 0, none⟩ : Addr) ≠ ⟨w.heap.size + 1, 1, none⟩ := by simp
  refine ⟨?_, ?_, ?_, ?_, fun o => ?_, fun o => ?_, ?_⟩
  · rw [World.cell?_setCell_other _ _ _ _ (n3 _ _), World.cell?_setCell_other _ _ _ _ (n3 _ _), World.cell?_setCell_other _ _ _ _ n1.symm]; exact World.cell?_setCell_same _ _ _ h0
  · rw [World.cell?_setCell_other _ _ _ _ (n3 _ _), World.cell?_setCell_other _ _ _ _ (n3 _ _)]
    exact World.cell?_setCell_same _ _ _ (by rw [World.cell?_setCell_other _ _ _ _ n1]; exact h1)
  · rw [World.cell?_setCell_other _ _ _ _ n4.symm]
    exact World.cell?_setCell_same _ _ _ (by rw [World.cell?_setCell_other _ _ _ _ (n2 _ _), World.cell?_setCell_other _ _ _ _ (n2 _ _)]; exact h2)
  · exact World.cell?_setCell_same _ _ _ (by rw [World.cell?_setCell_other _ _ _ _ n4, World.cell?_setCell_other _ _ _ _ (n2 _ _), World.cell?_setCell_other _ _ _ _ (n2 _ _)]; exact h3)
  · simp [e]
  · simp [f]
  · exact (((g.setCell (Nat.le_refl _) _).setCell (Nat.le_refl _) _).setCell (Nat.le_succ _) _).setCell (Nat.le_succ _) _
set_option maxHeartbeats 2000000 in
theorem rcmp_ok (an ad bn bd : Int) (w : World) (h1 : I64 an) (h2 : I64 ad) (h3 : I64 bn) (h4 : I64 bd) (hv : vld an ad = true) (hv2 : vld bn bd = true) :
    Calls Try.prog 43 #[.agg #[.int .i64 an, .int .i64 ad], .agg #[.int .i64 bn, .int .i64 bd]] w fun e w' => e = .returned (.int .i64 (sgnI (an * bd - bn * ad))) ∧ Below w.heap.size w w' := by
  have HV := Lib.hid hv
  have HV2 := Lib.hid hv2
  have PA := Lib.hid (vld_pos hv)
  have PB := Lib.hid (vld_pos hv2)
  clear hv hv2
  obtain ⟨S, hS⟩ : ∃ S, sgnI (an * bd - bn * ad) = S := ⟨_, rfl⟩
  rw [hS]
  have HS := Lib.hid hS
  clear hS
  go_enter Try.func43, Try.ntmps43
  go_wp2_with fail
  refine (rvalid_any an ad _ h1 h2).mono ?_
  rintro e w1 ⟨rfl, hb1⟩
  rw [HV.out]
  have F1 := Lib.hid (below_on (below_on (below_al w _) (below_al _ _)) hb1)
  have B1 := Lib.hid hb1
  obtain ⟨hcl, hfz⟩ := bcell' hb1
  clear hb1
  go_wp2_with fail
  refine (rvalid_any bn bd _ h3 h4).mono ?_
  rintro e w2 ⟨rfl, hb2⟩
  rw [HV2.out]
  have F2 := Lib.hid (below_on F1.out hb2)
  have B2 := Lib.hid (below_step' B1.out hb2)
  clear hb2 hcl hfz
  go_wp2_with fail
  have C0 : Hid (CfAt w w2 an ad bn bd) := by
    apply Lib.hid
    obtain ⟨q0, q1, q2, q3⟩ := two_boxes w (.int .i64 an) (.int .i64 ad) (.int .i64 bn) (.int .i64 bd) 64
    obtain ⟨hcl, hfz⟩ := bcell' B2.out
    refine ⟨?_, ?_, ?_, ?_, fun o => ?_, fun o => ?_, F2.out⟩
    · rw [hcl _ _ (by simp; omega)]; exact q0
    · rw [hcl _ _ (by simp; omega)]; exact q1
    · rw [hcl _ _ (by simp)]; exact q2
    · rw [hcl _ _ (by simp)]; exact q3
    · rw [hfz _ _ (by simp; omega)]; simp
    · rw [hfz _ _ (by simp)]; simp
  clear B2 F2 B1 F1 HV HV2
  go_loopw [5] (fun _ wr => ∃ an ad bn bd : Int, I64 an ∧ I64 ad ∧ I64 bn ∧ I64 bd ∧ Hid (0 < ad) ∧ Hid (0 < bd) ∧ Hid (sgnI (an * bd - bn * ad) = S) ∧ Hid (CfAt w wr an ad bn bd)) (fun _ wr => (intOf ((wr.cell? ⟨w.heap.size, 1, none⟩).getD undef)).toNat + (intOf ((wr.cell? ⟨w.heap.size + 1, 1, none⟩).getD undef)).toNat)
  case atStart => exact ⟨an, ad, bn, bd, h1, h2, h3, h4, PA, PB, HS, C0⟩
  case round =>
    clear h1 h2 h3 h4 PA PB HS C0
    obtain ⟨xn, xd, yn, yd, h1, h2, h3, h4, PA, PB, HS, HC⟩ := hrel
    obtain ⟨c0, c1, c2, c3, z0, z1, hbl⟩ := HC.out
    have FA := Lib.hid (fun v => rfloor_pos xn xd v h1 h2 PA.out)
    have FB := Lib.hid (fun v => rfloor_pos yn yd v h3 h4 PB.out)
    have ra := cf_parts xn PA.out
    have rb := cf_parts yn PB.out
    have NE := Lib.hid (fun h => cf_ne (an := xn) (bn := yn) PA.out PB.out h)
    have NX := Lib.hid (fun p => cf_next (an := xn) (ad := xd) (bn := yn) (bd := yd) (p := p))
    have fa := fl_range xn xd h1 (by have := PA.out; omega) (by have := PA.out; omega)
    have fb := fl_range yn yd h3 (by have := PB.out; omega) (by have := PB.out; omega)
    have H1 := Lib.hid h1
    have H2 := Lib.hid h2
    have H3 := Lib.hid h3
    have H4 := Lib.hid h4
    unfold I64 at h1 h2 h3 h4 fa fb
    have e1 : wrap64 (xn - wrap64 (fl xn xd * xd)) = xn - xd * fl xn xd := wrap_rest (by omega) (by omega)
    have e2 : wrap64 (yn - wrap64 (fl yn yd * yd)) = yn - yd * fl yn yd := wrap_rest (by omega) (by omega)
    generalize fl xn xd = p at *
    generalize fl yn yd = q at *
    obtain ⟨r, hr⟩ : ∃ r, xn - xd * p = r := ⟨_, rfl⟩
    obtain ⟨s, hs⟩ : ∃ s, yn - yd * q = s := ⟨_, rfl⟩
    rw [hr] at e1 ra
    rw [hs] at e2 rb
    have HR := Lib.hid hr
    have HSS := Lib.hid hs
    clear hbl hr hs h1 h2 h3 h4
    go_wp2_with fail
    refine (FA.out _).mono ?_
    rintro e w3 ⟨rfl, n1, rfl⟩
    go_wp2_with fail
    refine (FB.out _).mono ?_
    rintro e w4 ⟨rfl, n2, rfl⟩
    go_wp2_with fail
    go_quiet (fail)
    rw [e1, e2]
    have HC1 := Lib.hid ((HC.out.drew (n1 + n2)).drew nq)
    have k0 := HC1.out.1
    have k1 := HC1.out.2.1
    have k2 := HC1.out.2.2.1
    have k3 := HC1.out.2.2.2.1
    have y0 := HC1.out.2.2.2.2.1
    have y1 := HC1.out.2.2.2.2.2.1
    have HWM : Hid ((wr.cell? ⟨w.heap.size, 1, none⟩).getD undef = .int .i64 xd ∧ (wr.cell? ⟨w.heap.size + 1, 1, none⟩).getD undef = .int .i64 yd) := by
      apply Lib.hid; rw [c1, c3]; exact ⟨rfl, rfl⟩
    clear c0 c1 c2 c3 z0 z1 e1 e2
    generalize (wr.drewN (n1 + n2)).drewN nq = u at *
    by_cases hpq : p = q
    · subst hpq
      have NX1 := Lib.hid (NX.out p)
      rw [HR.out, HSS.out] at NX1
      by_cases hz : r = 0 ∨ s = 0
      · have NZ := Lib.hid (cf_zero PA.out PB.out ra.1 rb.1 hz)
        rw [NX1.out, HS.out] at NZ
        rcases (show (r = 0) ∨ (¬ r = 0 ∧ s = 0) by omega) with rfl | ⟨hr, rfl⟩
        · clear hz
          go_wp2_with fail
          refine (rsign_any 0 s _).mono ?_
          rintro e w5 ⟨rfl, rfl⟩
          rw [NZ.out]
          go_wp2
          go_ret
          exact ⟨rfl, HC1.out.2.2.2.2.2.2⟩
        · have d2 : (r == 0) = false := by simpa using hr
          clear hz hr
          go_wp2_with fail
          refine (rsign_any r 0 _).mono ?_
          rintro e w5 ⟨rfl, rfl⟩
          rw [NZ.out]
          go_wp2
          go_ret
          exact ⟨rfl, HC1.out.2.2.2.2.2.2⟩
      · have d2 : (r == 0) = false := by simp; omega
        have d3 : (s == 0) = false := by simp; omega
        have RS := Lib.hid (show 0 < r ∧ 0 < s by omega)
        have RB := Lib.hid (show I64 r ∧ I64 s from by
          have h2 := H2.out
          have h4 := H4.out
          unfold I64 at *
          omega)
        have LT := Lib.hid (show r < xd ∧ s < yd from ⟨ra.2, rb.2⟩)
        clear hz
        go_wp2
        go_roundw
        case rel => exact ⟨yd, s, xd, r, H4.out, RB.out.2, H2.out, RB.out.1, Lib.hid RS.out.2, Lib.hid RS.out.1, Lib.hid (by rw [Int.mul_comm xd s, Int.mul_comm s xd, NX1.out]; exact HS.out), Lib.hid (HC1.out.store yd s xd r)⟩
        case measure =>
          have HC2 := HC1.out.store yd s xd r
          rw [HC2.2.1, HC2.2.2.2.1, HWM.out.1, HWM.out.2]
          have := LT.out
          have := RS.out
          simp [intOf]
          omega
    · have d1 : (p == q) = false := by simpa using hpq
      have NN := Lib.hid ((NE.out hpq).trans HS.out)
      clear hpq
      go_wp2_with fail
      refine (rsign_any p q _).mono ?_
      rintro e w5 ⟨rfl, rfl⟩
      rw [NN.out]
      go_wp2
      go_ret
      exact ⟨rfl, HC1.out.2.2.2.2.2.2⟩
theorem rcmp_any (an ad bn bd : Int) (w : World) (h1 : I64 an) (h2 : I64 ad) (h3 : I64 bn) (h4 : I64 bd) :
    Calls Try.prog 43 #[.agg #[.int .i64 an, .int .i64 ad], .agg #[.int .i64 bn, .int .i64 bd]] w fun e w' => e = .returned (.int .i64 (cmpF an ad bn bd)) ∧ Below w.heap.size w w' := by
  unfold cmpF
  cases hv : vld an ad
  · rw [if_neg (by simp)]; exact rcmp_inv1 an ad bn bd w h1 h2 hv
  · cases hv2 : vld bn bd
    · rw [if_neg (by simp)]; exact rcmp_inv2 an ad bn bd w h1 h2 h3 h4 hv hv2
    · rw [if_pos (by simp)]; exact rcmp_ok an ad bn bd w h1 h2 h3 h4 hv hv2
end Go.Proofs.Ytpdiojndfckmfaa
