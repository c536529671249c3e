/- TerrainBetween returns true: the walk. -/
import Derived.Test.YthgdmcjahldihaaTerU
namespace Go.Proofs.Ythgdmcjahldihaa
open Go.RowKit
open Num Ter
set_option linter.unusedVariables false
set_option maxRecDepth 100000 in
set_option maxHeartbeats 1000000 in
theorem between_no (x y W H S : Int) (A : Option Addr) (n c : Nat) (px py col row : Int) (w : World) (hn : ¬ n ≤ 4200) :
    Calls Try.prog 13 #[hgt x y W H S A n c, .agg #[.int .i64 px, .int .i64 py], .int .i64 col, .int .i64 row] w fun e w' => e = .returned (.bool true) ∧ Below w.heap.size w w' := by
  unfold hgt
  have HB := Lib.hid (Bt.new w x y W H S A n c px py)
  go_enter Try.func13, Try.ntmps13
  go_wp2_with fail
  refine (light_no _ _ _ _ _ _ _ _ _ hn).mono ?_
  rintro e w1 ⟨rfl, hb1⟩
  have F := Lib.hid (HB.out.later hb1).2.2.2.2.2.2.2.2
  clear hb1
  go_wp2_with fail
  refine (awake43 _).mono ?_
  rintro e w2 ⟨rfl, hb2⟩
  have F2 := Lib.hid (below_on F.out hb2)
  clear hb2
  go_wp2
  go_ret
  exact ⟨rfl, F2.out⟩
set_option maxRecDepth 100000 in
set_option maxHeartbeats 1000000 in
theorem between_bad (x y W H S : Int) (A : Option Addr) (n c : Nat) (z : Nat → Int) (px py col row : Int) (w : World) (hn : n ≤ 4200) (hA : Ints w w.heap.size A n z) (hck : Ter.chk x y W H S n z ≠ 0) :
    Calls Try.prog 13 #[hgt x y W H S A n c, .agg #[.int .i64 px, .int .i64 py], .int .i64 col, .int .i64 row] w fun e w' => e = .returned (.bool true) ∧ Below w.heap.size w w' := by
  have T1 := Lib.hid (fun v => tcheck_any x y W H S A n c z v hn)
  have HI := Lib.hid hA
  have hb : (Ter.chk x y W H S n z != 0) = true := by simpa using hck
  generalize Ter.chk x y W H S n z = E at *
  clear hA hck
  unfold hgt at T1 ⊢
  have HB := Lib.hid (Bt.new w x y W H S A n c px py)
  go_enter Try.func13, Try.ntmps13
  go_wp2_with fail
  refine (light_yes _ _ _ _ _ _ _ _ _ hn).mono ?_
  rintro e w1 ⟨rfl, hb1⟩
  have H1 := Lib.hid (HB.out.later hb1)
  clear hb1 HB
  obtain ⟨c0, c1, c2, c3, c4, c5, c6, c7, -⟩ := H1.out
  go_wp2_with fail
  refine (T1.out _ (H1.out.ints HI.out)).mono ?_
  rintro e w2 ⟨rfl, hb2⟩
  have F := Lib.hid (H1.out.later hb2).2.2.2.2.2.2.2.2
  clear hb2 H1 c0 c1 c2 c3 c4 c5 c6 c7
  go_wp2_with fail
  refine (awake43 _).mono ?_
  rintro e w3 ⟨rfl, hb3⟩
  have F2 := Lib.hid (below_on F.out hb3)
  clear hb3
  go_wp2
  go_ret
  exact ⟨rfl, F2.out⟩
theorem vl_zc {x y S : Int} {n m q k r j : Nat} {z : Nat → Int} (h : Ter.chk x y m q S n z = 0) (hk : k + 2 ≤ m) (hr : r + 2 ≤ q) (hj : j < 4) :
    Ter.vlE x y m q S n z ((k : Int) + (j : Int) % 2) ((r : Int) + (j : Int) / 2) = 0 ∧ Ter.vlV x y m q S n z ((k : Int) + (j : Int) % 2) ((r : Int) + (j : Int) / 2) = zc z m k r j := by
  have h1 : Ter.In1 m q ((k : Int) + (j : Int) % 2) ((r : Int) + (j : Int) / 2) := ⟨⟨by omega, by omega⟩, by omega, by omega⟩
  obtain ⟨e1, e2⟩ := Ter.vl_in h h1
  refine ⟨e1, e2.trans ?_⟩
  unfold zc
  have : ((r : Int) + (j : Int) / 2) * m + ((k : Int) + (j : Int) % 2) = (((r + j / 2) * m + (k + j % 2) : Nat) : Int) := by push_cast; rfl
  rw [this]; rfl
def Bt2 (w v : World) (x y W H S : Int) (A : Option Addr) (n c : Nat) (px py : Int) (B : Nat) (fN fD : Int) : Prop :=
  Bt w v x y W H S A n c px py ∧ v.cell? ⟨B, 0, none⟩ = some (.int .i64 fN) ∧ v.cell? ⟨B, 1, none⟩ = some (.int .i64 fD)
theorem Bt2.later {w v u : World} {x y W H S : Int} {A : Option Addr} {n c : Nat} {px py : Int} {B : Nat} {fN fD : Int} (h : Bt2 w v x y W H S A n c px py B fN fD) (hb : Below v.heap.size v u) : Bt2 w u x y W H S A n c px py B fN fD :=
  ⟨h.1.later hb, cell_on h.2.1 hb, cell_on h.2.2 hb⟩
set_option maxRecDepth 100000 in
set_option maxHeartbeats 8000000 in
theorem between_yes (x y W H S : Int) (A : Option Addr) (n c : Nat) (z : Nat → Int) (px py col row : Int) (w : World) (hn : n ≤ 4200) (hcap : n ≤ c) (hcm : c ≤ maxLen) (hA : Ints w w.heap.size A n z) (hck : Ter.chk x y W H S n z = 0) :
    Calls Try.prog 13 #[hgt x y W H S A n c, .agg #[.int .i64 px, .int .i64 py], .int .i64 col, .int .i64 row] w fun e w' => e = .returned (.bool true) ∧ Below w.heap.size w w' := by
  have HI := Lib.hid hA
  have HC := Lib.hid hck
  obtain ⟨⟨g1, g2⟩, ⟨g3, g4⟩, ⟨g5, g6⟩, ⟨g7, g8⟩, ⟨g9, g10⟩, -, -⟩ := (Ter.chk_zero hck).1
  have T1 := Lib.hid (fun v => tcheck_any x y W H S A n c z v hn)
  have T2 := Lib.hid (fun v => tValue_any x y W H S A n c z col row v hn hcap hcm)
  have T3 := Lib.hid (fun v => Height_any x y W H S (x + col * S) (y + row * S) A n c z v hn hcap hcm)
  have T4 := Lib.hid (fun v => Height_any x y W H S px py A n c z v hn hcap hcm)
  rw [hck] at T1
  clear hA hck
  unfold hgt at T1 T2 T3 T4 ⊢
  have HB := Lib.hid (Bt.new w x y W H S A n c px py)
  go_enter Try.func13, Try.ntmps13
  go_wp2_with fail
  refine (light_yes _ _ _ _ _ _ _ _ _ hn).mono ?_
  rintro e w1 ⟨rfl, hb1⟩
  have H1 := Lib.hid (HB.out.later hb1)
  clear hb1 HB
  obtain ⟨c0, c1, c2, c3, c4, c5, c6, c7, -⟩ := H1.out
  go_wp2_with fail
  refine (T1.out _ (H1.out.ints HI.out)).mono ?_
  rintro e w2 ⟨rfl, hb2⟩
  have H2 := Lib.hid (H1.out.later hb2)
  clear hb2 H1 c0 c1 c2 c3 c4 c5 c6 c7 T1
  obtain ⟨c0, c1, c2, c3, c4, c5, c6, c7, -⟩ := H2.out
  go_wp2_with fail
  refine (T2.out _ (H2.out.ints HI.out)).mono ?_
  rintro e w3 ⟨rfl, hb3⟩
  have H3 := Lib.hid (H2.out.later hb3)
  clear hb3 H2 c0 c1 c2 c3 c4 c5 c6 c7 T2
  go_upto_if 42 with fail
  go_cut [9, 10, 11, 12] (fun _ _ _ _ wc => Hid (Bt w wc x y W H S A n c px py))
  case first =>
    by_cases hin : Ter.In1 W H col row
    · obtain ⟨e1, e2⟩ := Ter.vl_in HC.out hin
      obtain ⟨f1, f2, f3⟩ := Ter.hg_grid HC.out hin
      have E1 := Lib.hid e1
      have E2 := Lib.hid e2
      rw [f1, f2, f3] at T3
      rw [e1, e2]
      clear f1 f2 f3 e1 e2 E1 E2
      generalize z (row * W + col).toNat = v at *
      obtain ⟨⟨i1, i2⟩, i3, i4⟩ := hin
      obtain ⟨p1, p2⟩ := Ter.mul_bound (a := col) (b := S) (A := 64) (B := 1048576) (by omega) (by omega) (by omega) (by omega)
      obtain ⟨p3, p4⟩ := Ter.mul_bound (a := row) (b := S) (A := 64) (B := 1048576) (by omega) (by omega) (by omega) (by omega)
      obtain ⟨c0, c1, c2, c3, c4, c5, c6, c7, -⟩ := H3.out
      go_wp2_with fail
      refine (T3.out _ (H3.out.ints HI.out)).mono ?_
      rintro e w4 ⟨rfl, hb4⟩
      have H4 := Lib.hid ((H3.out.later hb4).later (below_al w4 (.cells #[.int .i64 v, .int .i64 1] 44)))
      clear hb4 H3 c0 c1 c2 c3 c4 c5 c6 c7
      go_wp2_with fail
      have b0 := (cell_new2 w4 (x := .int .i64 v) (y := .int .i64 1) (t := 44)).1
      have b1 := (cell_new2 w4 (x := .int .i64 v) (y := .int .i64 1) (t := 44)).2
      generalize w4.alloc (.cells #[.int .i64 v, .int .i64 1] 44) = u at *
      generalize w4.heap.size = B at *
      have L0 := fun m : Later u => m.cell b0
      have L1 := fun m : Later u => m.cell b1
      have ev : (v == v) = true := by simp
      have ev2 : (v != v) = false := by simp
      refine region_later (by kernel_rfl) (by kernel_rfl) ?_
      repeat (first | go_big_quiet_skip | (go_big_quiet_want; go_big_quiet_op; first | go_big_quiet_on | go_big_quiet_call (exact later_of (whole_any v _))))
      refine wpQuiet_nil ?_
      refine later_end ?_
      intro k
      have H5 := Lib.hid (H4.out.later k.below)
      clear L0 L1 b0 b1 H4
      generalize k.wd = u2 at *
      go_wp2_with fail
      go_meet
      exact H5
    · obtain ⟨e1, e2⟩ := Ter.vl_out HC.out hin
      rw [e1, e2]
      clear e1 e2 hin
      go_wp2_with fail
      go_meet
      exact H3
  case rest =>
  clear H3 T3
  have H3 := hcut
  clear hcut
  generalize wc = w3' at *
  obtain ⟨c0, c1, c2, c3, c4, c5, c6, c7, -⟩ := H3.out
  go_wp2_with fail
  refine (T4.out _ (H3.out.ints HI.out)).mono ?_
  rintro e w4 ⟨rfl, hb4⟩
  by_cases hin : Ter.Ins x y W H S px py
  · obtain ⟨m, q, k, r, rfl, rfl, hk, hr, hk2, hr2, hnn, iN, iD, iL, iH, cL, cH, xL, xH, hzc⟩ := last_facts HC.out hin
    rw [(Ter.hg_in HC.out hin).1]
    have hf1 := (Ter.hg_in HC.out hin).1
    have X1 := Lib.hid (fun v => Extent_any x y m q S A n c z v hn)
    have KL := Lib.hid (fun v => cmp_any (cLo z m k r 4) 1 (hgN x y m q S n z px py) (hgD x y m q S n z px py) v iL ⟨by decide, by decide⟩ iN iD)
    have KH := Lib.hid (fun v => cmp_any (hgN x y m q S n z px py) (hgD x y m q S n z px py) (cHi z m k r 4) 1 v iN iD iH ⟨by decide, by decide⟩)
    rw [HC.out] at X1
    have HL4 := Lib.hid xL
    have HH4 := Lib.hid xH
    generalize hgN x y m q S n z px py = fN at *
    generalize hgD x y m q S n z px py = fD at *
    generalize cmpF (cLo z m k r 4) 1 fN fD = kL at *
    generalize cmpF fN fD (cHi z m k r 4) 1 = kH at *
    generalize exLo x y m q S n z = eL at *
    generalize exHi x y m q S n z = eH at *
    have q1 : 0 ≤ ((m : Int) - 1) * S ∧ ((m : Int) - 1) * S ≤ 66060288 := Ter.mul_bound (A := 63) (B := 1048576) (by omega) (by omega) (by omega) (by omega)
    have q2 : 0 ≤ ((q : Int) - 1) * S ∧ ((q : Int) - 1) * S ≤ 66060288 := Ter.mul_bound (A := 63) (B := 1048576) (by omega) (by omega) (by omega) (by omega)
    have hpx : 0 ≤ px - x ∧ px - x ≤ 66060288 := by have := hin.1; omega
    have hpy : 0 ≤ py - y ∧ py - y ≤ 66060288 := by have := hin.2; omega
    have MX := Lib.hid (show (if (m : Int) - 2 < (px - x) / S then (m : Int) - 2 else (px - x) / S) = k from hk)
    have MY := Lib.hid (show (if (q : Int) - 2 < (py - y) / S then (q : Int) - 2 else (py - y) / S) = r from hr)
    have HK := Lib.hid hk
    have HR := Lib.hid hr
    have H4 := Lib.hid ((H3.out.later hb4).later (below_al w4 (.cells #[.int .i64 fN, .int .i64 fD] 44)))
    have TV := Lib.hid (fun col row v => tValue_any x y m q S A n c z col row v hn hcap hcm)
    have VZ : Hid (∀ j : Nat, j < 4 → _) := Lib.hid (fun (j : Nat) (hj : j < 4) => vl_zc HC.out hk2 hr2 hj)
    have ZC := Lib.hid hzc
    unfold hgt at X1 TV
    clear hb4 H3 c0 c1 c2 c3 c4 c5 c6 c7 T4 hin hf1 iN iD iL iH hk hr q1 q2 xL xH hzc hnn
    have b0 := (cell_new2 w4 (x := .int .i64 fN) (y := .int .i64 fD) (t := 44)).1
    have b1 := (cell_new2 w4 (x := .int .i64 fN) (y := .int .i64 fD) (t := 44)).2
    have HB0 := Lib.hid b0
    have HB1 := Lib.hid b1
    clear b0 b1
    go_upto_region 11 with fail
    generalize w4.alloc (.cells #[.int .i64 fN, .int .i64 fD] 44) = u at *
    generalize w4.heap.size = B at *
    have H5 := Lib.hid (show Bt2 w u x y m q S A n c px py B fN fD from ⟨H4.out, HB0.out, HB1.out⟩)
    clear H4 HB0 HB1
    obtain ⟨⟨c0, c1, c2, c3, c4, c5, c6, c7, -⟩, -, -⟩ := H5.out
    have dS : decide (S < 1) = false := by simp; omega
    go_wp2_with fail
    have L0 := fun k : Later u => k.cell c0
    have L1 := fun k : Later u => k.cell c1
    have L2 := fun k : Later u => k.cell c2
    have L3 := fun k : Later u => k.cell c3
    have L4 := fun k : Later u => k.cell c4
    have L6 := fun k : Later u => k.cell c6
    have L7 := fun k : Later u => k.cell c7
    have s1 : IntKind.i64.wrap (px - x) = px - x := IntWalk.i64_in _ (by omega)
    have s2 : IntKind.i64.wrap ((m : Int) - 2) = (m : Int) - 2 := IntWalk.i64_in _ (by omega)
    have s3 : IntKind.i64.wrap (py - y) = py - y := IntWalk.i64_in _ (by omega)
    have s4 : IntKind.i64.wrap ((q : Int) - 2) = (q : Int) - 2 := IntWalk.i64_in _ (by omega)
    have s5 : S ≠ 0 := by omega
    refine region_later (by kernel_rfl) (by kernel_rfl) ?_
    repeat (first | go_big_quiet_skip | (go_big_quiet_want; go_big_quiet_op; go_big_quiet_on))
    refine wpQuiet_nil ?_
    refine later_end ?_
    intro kw
    have H6 := Lib.hid (H5.out.later kw.below)
    clear L0 L1 L2 L3 L4 L6 L7 c0 c1 c2 c3 c4 c5 c6 c7 H5 s1 s2 s3 s4 s5
    generalize kw.wd = u6 at *
    clear kw
    rw [MX.out, MY.out]
    clear MX MY
    go_wp2_with fail
    go_loopw [17, 18, 19] (fun lo hi i wr => ∃ j : Nat, j ≤ 4 ∧ i = .int .i64 j ∧ lo = .int .i64 (cLo z m k r j) ∧ hi = .int .i64 (cHi z m k r j) ∧ Hid (Bt2 w wr x y m q S A n c px py B fN fD)) (fun _ _ i _ => 4 - (intOf i).toNat)
    case atStart => exact ⟨0, by omega, rfl, rfl, rfl, H6⟩
    case round =>
      clear H6
      obtain ⟨j, hj, rfl, rfl, rfl, HW⟩ := hrel
      by_cases hlt : j < 4
      · have hjn : decide ((j : Int) < 4) = true := by simp; omega
        obtain ⟨⟨c0, c1, c2, c3, c4, c5, c6, c7, -⟩, -, -⟩ := HW.out
        obtain ⟨v1, v2⟩ := VZ.out j hlt
        have V1 := Lib.hid v1
        have V2 := Lib.hid v2
        clear v1 v2
        go_wp2_with fail
        refine (TV.out _ _ _ (HW.out.1.ints HI.out)).mono ?_
        rintro e w7 ⟨rfl, hb7⟩
        rw [V1.out, V2.out]
        have H7 := Lib.hid (HW.out.later hb7)
        clear hb7 HW c0 c1 c2 c3 c4 c5 c6 c7 V1 V2
        by_cases hj0 : j = 0
        · subst hj0
          go_wp2
          go_roundw
          case rel => exact ⟨1, by omega, by go_num, by refine congrArg _ ?_; simp [cLo], by refine congrArg _ ?_; simp [cHi], H7⟩
          case measure => simp [intOf]
        · have hjb : ((j : Int) == 0) = false := by simp; omega
          have hjb2 : (j == 0) = false := by simp; omega
          have HJ := Lib.hid hj0
          clear hj0
          go_wp2
          go_roundw
          case rel => exact ⟨j + 1, by omega, by go_num, by refine congrArg _ ?_; simp only [cLo, if_neg HJ.out]; (try split) <;> omega, by refine congrArg _ ?_; simp only [cHi, if_neg HJ.out]; (try split) <;> omega, H7⟩
          case measure => simp [intOf]; omega
      · obtain rfl : j = 4 := by omega
        obtain ⟨⟨c0, c1, c2, c3, c4, c5, c6, c7, -⟩, -, -⟩ := HW.out
        clear TV VZ ZC hj hlt
        generalize cLo z m k r 4 = lo at *
        generalize cHi z m k r 4 = hi at *
        go_wp2_with fail
        refine (X1.out _ (HW.out.1.ints HI.out)).mono ?_
        rintro e w7 ⟨rfl, hb7⟩
        have H7 := Lib.hid (HW.out.later hb7)
        clear hb7 HW c0 c1 c2 c3 c4 c5 c6 c7 X1
        obtain ⟨-, b0, b1⟩ := H7.out
        have L0 := fun k : Later w7 => k.cell b0
        have L1 := fun k : Later w7 => k.cell b1
        have x1 := HL4.out
        have x2 := HH4.out
        have d1 : decide (kL ≤ 0) = true := by simpa using cL
        have d2 : decide (kH ≤ 0) = true := by simpa using cH
        have d3 : decide (eL ≤ lo) = true := by simpa using x1
        have d4 : decide (hi ≤ eH) = true := by simpa using x2
        go_wp2_with fail
        refine region_later (by kernel_rfl) (by kernel_rfl) ?_
        (go_big_quiet_want; go_big_quiet_op; go_big_quiet_call (exact later_of (awake43 _)))
        (go_big_quiet_want; go_big_quiet_op; go_big_quiet_on)
        (go_big_quiet_want; go_big_quiet_op; go_big_quiet_on)
        (go_big_quiet_want; go_big_quiet_op; go_big_quiet_on)
        (go_big_quiet_want; go_big_quiet_op; go_big_quiet_on)
        (go_big_quiet_want; go_big_quiet_op; go_big_quiet_on)
        (go_big_quiet_want; go_big_quiet_op; go_big_quiet_on)
        (go_big_quiet_want; go_big_quiet_op; go_big_quiet_call (exact later_of (whole_any lo _)))
        (go_big_quiet_want; go_big_quiet_op; go_big_quiet_on)
        (go_big_quiet_want; go_big_quiet_op; go_big_quiet_call (exact later_of (KL.out _)))
        (go_big_quiet_want; go_big_quiet_op; go_big_quiet_on)
        (go_big_quiet_want; go_big_quiet_op; go_big_quiet_on)
        (go_big_quiet_want; go_big_quiet_op; go_big_quiet_on)
        (go_big_quiet_want; go_big_quiet_op; go_big_quiet_on)
        (go_big_quiet_want; go_big_quiet_op; go_big_quiet_on)
        (go_big_quiet_want; go_big_quiet_op; go_big_quiet_call (exact later_of (whole_any hi _)))
        (go_big_quiet_want; go_big_quiet_op; go_big_quiet_call (exact later_of (KH.out _)))
        (go_big_quiet_want; go_big_quiet_op; go_big_quiet_on)
        (go_big_quiet_want; go_big_quiet_op; go_big_quiet_on)
        (go_big_quiet_want; go_big_quiet_op; go_big_quiet_on)
        (go_big_quiet_want; go_big_quiet_op; go_big_quiet_on)
        (go_big_quiet_want; go_big_quiet_op; go_big_quiet_on)
        (go_big_quiet_want; go_big_quiet_op; go_big_quiet_on)
        (go_big_quiet_want; go_big_quiet_op; go_big_quiet_on)
        (go_big_quiet_want; go_big_quiet_op; go_big_quiet_on)
        (go_big_quiet_want; go_big_quiet_op; go_big_quiet_on)
        (go_big_quiet_want; go_big_quiet_op; go_big_quiet_on)
        (go_big_quiet_want; go_big_quiet_op; go_big_quiet_on)
        (go_big_quiet_want; go_big_quiet_op; go_big_quiet_on)
        (go_big_quiet_want; go_big_quiet_op; go_big_quiet_on)
        refine wpQuiet_nil ?_
        refine later_end ?_
        intro kw
        have F := Lib.hid (H7.out.later kw.below).1.2.2.2.2.2.2.2.2
        clear L0 L1 b0 b1 H7
        generalize kw.wd = u8 at *
        go_wp2
        go_ret
        exact ⟨rfl, F.out⟩
  · obtain ⟨e1, e2, e3⟩ := Ter.hg_out HC.out hin
    rw [e1, e2, e3]
    have F := Lib.hid (H3.out.later hb4).2.2.2.2.2.2.2.2
    clear hb4 H3 c0 c1 c2 c3 c4 c5 c6 c7 e1 e2 e3 hin T4
    go_wp2_with fail
    refine (awake43 _).mono ?_
    rintro e w5 ⟨rfl, hb5⟩
    have F2 := Lib.hid (below_on (below_on F.out (below_al _ _)) hb5)
    clear hb5
    go_wp2
    go_ret
    exact ⟨rfl, F2.out⟩
theorem between_any (x y W H S : Int) (A : Option Addr) (n c : Nat) (z : Nat → Int) (px py col row : Int) (w : World) (hcap : n ≤ c) (hcm : c ≤ maxLen) (hA : Ints w w.heap.size A n z) :
    Calls Try.prog 13 #[hgt x y W H S A n c, .agg #[.int .i64 px, .int .i64 py], .int .i64 col, .int .i64 row] w fun e w' => e = .returned (.bool true) ∧ Below w.heap.size w w' := by
  by_cases hn : n ≤ 4200
  · by_cases h : Ter.chk x y W H S n z = 0
    · exact between_yes x y W H S A n c z px py col row w hn hcap hcm hA h
    · exact between_bad x y W H S A n c z px py col row w hn hA h
  · exact between_no x y W H S A n c px py col row w hn
end Go.Proofs.Ythgdmcjahldihaa
