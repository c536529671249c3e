/- The contract of cut.Cross. (printed by mkcross2.py) -/
import Derived.Test.YtpdiojndfckmfaaCutD
import Derived.Test.YtpdiojndfckmfaaGeoI
import Derived.Deep.CutBlock
namespace Go.Proofs.Ytpdiojndfckmfaa
open Go.RowKit
open Num Geo Cut
set_option linter.unusedVariables false
theorem ret_cross {x y x' y' E E' : Int} (h1 : x = x') (h2 : y = y') (h3 : E = E') : Ending.returned (.tuple #[.agg #[.int .i64 x, .int .i64 y], .int .i64 E]) = .returned (.tuple #[.agg #[.int .i64 x', .int .i64 y'], .int .i64 E']) := by rw [h1, h2, h3]
theorem idx_pt (a b c d : Value) (w : World) : (Instr.index 57 (.agg #[a, b, c, d]) (.int .i64 0)).run Try.prog w = .ok (.agg #[a, b]) w ∧ (Instr.index 57 (.agg #[a, b, c, d]) (.int .i64 1)).run Try.prog w = .ok (.agg #[c, d]) w := by
  have hu := Try.underlying57
  constructor <;> simp [Instr.index, run_underlying hu, asIntOf, go_sem]
set_option maxRecDepth 100000 in
set_option maxHeartbeats 16000000 in
theorem Cross_any (ax ay bx by_ cx cy dx dy : Int) (w : World) :
    Calls Try.prog 13 #[.agg #[.int .i64 ax, .int .i64 ay], .agg #[.int .i64 bx, .int .i64 by_], .agg #[.int .i64 cx, .int .i64 cy], .agg #[.int .i64 dx, .int .i64 dy]] w (CrossOut (crP ax ay bx by_ cx cy dx dy).1 (crP ax ay bx by_ cx cy dx dy).2 (crE ax ay bx by_ cx cy dx dy) w) := by
  have HC := Lib.hid (cr_cases ax ay bx by_ cx cy dx dy)
  have HI := Lib.hid (near4_iff ax ay bx by_ cx cy dx dy)
  have MT := Lib.hid (fun v => Meet_any ax ay bx by_ cx cy dx dy v)
  have O1 := Lib.hid (fun v => On_any cx cy dx dy ax ay v)
  have O2 := Lib.hid (fun v => On_any cx cy dx dy bx by_ v)
  have O3 := Lib.hid (fun v => On_any ax ay bx by_ cx cy v)
  have O4 := Lib.hid (fun v => On_any ax ay bx by_ dx dy v)
  generalize (crP ax ay bx by_ cx cy dx dy).1 = X at *
  generalize (crP ax ay bx by_ cx cy dx dy).2 = Y at *
  generalize crE ax ay bx by_ cx cy dx dy = E at *
  generalize mtF ax ay bx by_ cx cy dx dy = t at *
  generalize onF cx cy dx dy ax ay = o1 at *
  generalize onF cx cy dx dy bx by_ = o2 at *
  generalize onF ax ay bx by_ cx cy = o3 at *
  generalize onF ax ay bx by_ dx dy = o4 at *
  go_enter Try.func13, Try.ntmps13
  go_wp2_with fail
  refine (accX w ax ay bx by_ cx cy dx dy).mono ?_
  rintro e w1 ⟨rfl, HB⟩
  have H1 := Lib.hid HB
  clear HB
  obtain ⟨⟨c0, c1, c2, c3, c4, c5, c6, c7, -⟩, ⟨d0, d1, y0⟩⟩ := H1.out
  rcases crc_near HC.out with h | h | h | h
  · obtain ⟨hn, rfl, rfl, rfl⟩ := h
    rw [hn]
    clear HC
    go_wp2
    obtain ⟨⟨k0, k1, k2⟩, k3⟩ := cross_end H1.out 0 0
    exact bodyPost_ret (v := .tuple #[.agg #[.int .i64 0, .int .i64 0], .int .i64 2]) (by simp [results, Try.results13, go_sem, k0, k1]) rfl ⟨rfl, k3⟩
  · obtain ⟨hn, rfl, rfl, rfl, rfl⟩ := h
    rw [hn]
    clear HC
    go_wp2_with fail
    refine (MT.out _).mono ?_
    rintro e w2 ⟨rfl, hb2⟩
    have H2 := Lib.hid (H1.out.later hb2)
    clear H1 hb2
    clear c0 c1 c2 c3 c4 c5 c6 c7 d0 d1 y0
    obtain ⟨⟨c0, c1, c2, c3, c4, c5, c6, c7, -⟩, ⟨d0, d1, y0⟩⟩ := H2.out
    go_wp2
    obtain ⟨⟨k0, k1, k2⟩, k3⟩ := cross_end H2.out 0 0
    exact bodyPost_ret (v := .tuple #[.agg #[.int .i64 0, .int .i64 0], .int .i64 7]) (by simp [results, Try.results13, go_sem, k0, k1]) rfl ⟨rfl, k3⟩
  · obtain ⟨hn, rfl, rfl, rfl, rfl⟩ := h
    rw [hn]
    clear HC
    go_wp2_with fail
    refine (MT.out _).mono ?_
    rintro e w2 ⟨rfl, hb2⟩
    have H2 := Lib.hid (H1.out.later hb2)
    clear H1 hb2
    clear c0 c1 c2 c3 c4 c5 c6 c7 d0 d1 y0
    obtain ⟨⟨c0, c1, c2, c3, c4, c5, c6, c7, -⟩, ⟨d0, d1, y0⟩⟩ := H2.out
    go_wp2
    obtain ⟨⟨k0, k1, k2⟩, k3⟩ := cross_end H2.out 0 0
    exact bodyPost_ret (v := .tuple #[.agg #[.int .i64 0, .int .i64 0], .int .i64 1]) (by simp [results, Try.results13, go_sem, k0, k1]) rfl ⟨rfl, k3⟩
  · obtain ⟨hn, rfl⟩ := h
    rw [hn] at HC ⊢
    have HN := Lib.hid (HI.out.1 hn)
    obtain ⟨rfl, J1, J2, J3, J4, J5⟩ := crc_one HC.out
    have K1 := Lib.hid J1
    have K2 := Lib.hid J2
    have K3 := Lib.hid J3
    have K4 := Lib.hid J4
    have K5 := Lib.hid J5
    clear HC HI hn J1 J2 J3 J4 J5
    go_wp2_with fail
    refine (MT.out _).mono ?_
    rintro e w2 ⟨rfl, hb2⟩
    have H2 := Lib.hid (H1.out.later hb2)
    clear H1 hb2 MT
    clear c0 c1 c2 c3 c4 c5 c6 c7 d0 d1 y0
    obtain ⟨⟨c0, c1, c2, c3, c4, c5, c6, c7, -⟩, ⟨d0, d1, y0⟩⟩ := H2.out
    go_upto_block 1 with fail
    go_cut [11] from 38 to 46 (fun _ wc => Hid (o1 = false) ∧ Hid (o2 = false) ∧ Hid (HasX w wc ax ay bx by_ cx cy dx dy))
    case first =>
      go_wp2_with fail
      go_loopw [38] (fun i wr => ∃ k : Int, 0 ≤ k ∧ k ≤ 2 ∧ i = .int .i64 k ∧ Hid (0 < k → o1 = false) ∧ Hid (1 < k → o2 = false) ∧ Hid (HasX w wr ax ay bx by_ cx cy dx dy)) (fun i _ => 2 - (intOf i).toNat)
      case atStart => exact ⟨0, by omega, by omega, rfl, Lib.hid (by omega), Lib.hid (by omega), H2⟩
      case round =>
        clear H2
        clear c0 c1 c2 c3 c4 c5 c6 c7 d0 d1 y0
        obtain ⟨k, hk0, hk, rfl, Z1, Z2, H3⟩ := hrel
        obtain ⟨⟨c0, c1, c2, c3, c4, c5, c6, c7, -⟩, ⟨d0, d1, y0⟩⟩ := H3.out
        rcases (show k = 0 ∨ k = 1 ∨ k = 2 by omega) with rfl | rfl | rfl
        · clear hk0 hk
          have IX := fun v => (idx_pt (.int .i64 ax) (.int .i64 ay) (.int .i64 bx) (.int .i64 by_) v).1
          have l0 := cell_lt c0
          have l2 := cell_lt c2
          have l4 := cell_lt c4
          have l6 := cell_lt c6
          have l8 := cell_lt d0
          go_wp2_with fail
          refine (O1.out _).mono ?_
          rintro e w4 ⟨rfl, hb4⟩
          have H4 := Lib.hid (H3.out.later (below_on (below_al _ _) hb4))
          have b0 := cell_on (cell_new2 wr (t := 23) (x := .int .i64 ax) (y := .int .i64 ay)).1 hb4
          have b1 := cell_on (cell_new2 wr (t := 23) (x := .int .i64 ax) (y := .int .i64 ay)).2 hb4
          clear hb4 IX l0 l2 l4 l6 l8 H3
          clear c0 c1 c2 c3 c4 c5 c6 c7 d0 d1 y0
          obtain ⟨⟨c0, c1, c2, c3, c4, c5, c6, c7, -⟩, ⟨d0, d1, y0⟩⟩ := H4.out
          cases o1 with
          | true =>
            obtain ⟨hX, hY⟩ := K1.out  rfl
            go_wp2
            obtain ⟨⟨k0, k1, k2⟩, k3⟩ := cross_end H4.out ax ay
            exact bodyPost_ret (v := .tuple #[.agg #[.int .i64 ax, .int .i64 ay], .int .i64 0]) (by simp [results, Try.results13, go_sem, k0, k1]) rfl ⟨ret_cross hX.symm hY.symm rfl, k3⟩
          | false =>
            go_wp2
            go_roundw
            case rel => exact ⟨1, by omega, by omega, by go_num, Lib.hid (by simp), Lib.hid (by omega), H4⟩
            case measure => simp [intOf] <;> omega
        · clear hk0 hk
          have IX := fun v => (idx_pt (.int .i64 ax) (.int .i64 ay) (.int .i64 bx) (.int .i64 by_) v).2
          have l0 := cell_lt c0
          have l2 := cell_lt c2
          have l4 := cell_lt c4
          have l6 := cell_lt c6
          have l8 := cell_lt d0
          go_wp2_with fail
          refine (O2.out _).mono ?_
          rintro e w4 ⟨rfl, hb4⟩
          have H4 := Lib.hid (H3.out.later (below_on (below_al _ _) hb4))
          have b0 := cell_on (cell_new2 wr (t := 23) (x := .int .i64 bx) (y := .int .i64 by_)).1 hb4
          have b1 := cell_on (cell_new2 wr (t := 23) (x := .int .i64 bx) (y := .int .i64 by_)).2 hb4
          clear hb4 IX l0 l2 l4 l6 l8 H3
          clear c0 c1 c2 c3 c4 c5 c6 c7 d0 d1 y0
          obtain ⟨⟨c0, c1, c2, c3, c4, c5, c6, c7, -⟩, ⟨d0, d1, y0⟩⟩ := H4.out
          cases o2 with
          | true =>
            obtain ⟨hX, hY⟩ := K2.out (Z1.out (by omega)) rfl
            go_wp2
            obtain ⟨⟨k0, k1, k2⟩, k3⟩ := cross_end H4.out bx by_
            exact bodyPost_ret (v := .tuple #[.agg #[.int .i64 bx, .int .i64 by_], .int .i64 0]) (by simp [results, Try.results13, go_sem, k0, k1]) rfl ⟨ret_cross hX.symm hY.symm rfl, k3⟩
          | false =>
            go_wp2
            go_roundw
            case rel => exact ⟨2, by omega, by omega, by go_num, Lib.hid (fun _ => Z1.out (by omega)), Lib.hid (by simp), H4⟩
            case measure => simp [intOf] <;> omega
        · go_wp2
          go_meet
          exact ⟨Lib.hid (Z1.out (by omega)), Lib.hid (Z2.out (by omega)), H3⟩
    case rest =>
    clear H2 O1 O2 K1 K2
    clear c0 c1 c2 c3 c4 c5 c6 c7 d0 d1 y0
    obtain ⟨Q1, Q2, H2⟩ := hcut
    obtain ⟨⟨c0, c1, c2, c3, c4, c5, c6, c7, -⟩, ⟨d0, d1, y0⟩⟩ := H2.out
    go_upto_block 3 with fail
    go_cut [13] from 50 to 58 (fun _ wc => Hid (o3 = false) ∧ Hid (o4 = false) ∧ Hid (HasX w wc ax ay bx by_ cx cy dx dy))
    case first =>
      go_wp2_with fail
      go_loopw [50] (fun i wr => ∃ k : Int, 0 ≤ k ∧ k ≤ 2 ∧ i = .int .i64 k ∧ Hid (0 < k → o3 = false) ∧ Hid (1 < k → o4 = false) ∧ Hid (HasX w wr ax ay bx by_ cx cy dx dy)) (fun i _ => 2 - (intOf i).toNat)
      case atStart => exact ⟨0, by omega, by omega, rfl, Lib.hid (by omega), Lib.hid (by omega), H2⟩
      case round =>
        clear H2
        clear c0 c1 c2 c3 c4 c5 c6 c7 d0 d1 y0
        obtain ⟨k, hk0, hk, rfl, Z1, Z2, H3⟩ := hrel
        obtain ⟨⟨c0, c1, c2, c3, c4, c5, c6, c7, -⟩, ⟨d0, d1, y0⟩⟩ := H3.out
        rcases (show k = 0 ∨ k = 1 ∨ k = 2 by omega) with rfl | rfl | rfl
        · clear hk0 hk
          have IX := fun v => (idx_pt (.int .i64 cx) (.int .i64 cy) (.int .i64 dx) (.int .i64 dy) v).1
          have l0 := cell_lt c0
          have l2 := cell_lt c2
          have l4 := cell_lt c4
          have l6 := cell_lt c6
          have l8 := cell_lt d0
          go_wp2_with fail
          refine (O3.out _).mono ?_
          rintro e w4 ⟨rfl, hb4⟩
          have H4 := Lib.hid (H3.out.later (below_on (below_al _ _) hb4))
          have b0 := cell_on (cell_new2 wr (t := 23) (x := .int .i64 cx) (y := .int .i64 cy)).1 hb4
          have b1 := cell_on (cell_new2 wr (t := 23) (x := .int .i64 cx) (y := .int .i64 cy)).2 hb4
          clear hb4 IX l0 l2 l4 l6 l8 H3
          clear c0 c1 c2 c3 c4 c5 c6 c7 d0 d1 y0
          obtain ⟨⟨c0, c1, c2, c3, c4, c5, c6, c7, -⟩, ⟨d0, d1, y0⟩⟩ := H4.out
          cases o3 with
          | true =>
            obtain ⟨hX, hY⟩ := K3.out (Q1.out) (Q2.out) rfl
            go_wp2
            obtain ⟨⟨k0, k1, k2⟩, k3⟩ := cross_end H4.out cx cy
            exact bodyPost_ret (v := .tuple #[.agg #[.int .i64 cx, .int .i64 cy], .int .i64 0]) (by simp [results, Try.results13, go_sem, k0, k1]) rfl ⟨ret_cross hX.symm hY.symm rfl, k3⟩
          | false =>
            go_wp2
            go_roundw
            case rel => exact ⟨1, by omega, by omega, by go_num, Lib.hid (by simp), Lib.hid (by omega), H4⟩
            case measure => simp [intOf] <;> omega
        · clear hk0 hk
          have IX := fun v => (idx_pt (.int .i64 cx) (.int .i64 cy) (.int .i64 dx) (.int .i64 dy) v).2
          have l0 := cell_lt c0
          have l2 := cell_lt c2
          have l4 := cell_lt c4
          have l6 := cell_lt c6
          have l8 := cell_lt d0
          go_wp2_with fail
          refine (O4.out _).mono ?_
          rintro e w4 ⟨rfl, hb4⟩
          have H4 := Lib.hid (H3.out.later (below_on (below_al _ _) hb4))
          have b0 := cell_on (cell_new2 wr (t := 23) (x := .int .i64 dx) (y := .int .i64 dy)).1 hb4
          have b1 := cell_on (cell_new2 wr (t := 23) (x := .int .i64 dx) (y := .int .i64 dy)).2 hb4
          clear hb4 IX l0 l2 l4 l6 l8 H3
          clear c0 c1 c2 c3 c4 c5 c6 c7 d0 d1 y0
          obtain ⟨⟨c0, c1, c2, c3, c4, c5, c6, c7, -⟩, ⟨d0, d1, y0⟩⟩ := H4.out
          cases o4 with
          | true =>
            obtain ⟨hX, hY⟩ := K4.out (Q1.out) (Q2.out) (Z1.out (by omega)) rfl
            go_wp2
            obtain ⟨⟨k0, k1, k2⟩, k3⟩ := cross_end H4.out dx dy
            exact bodyPost_ret (v := .tuple #[.agg #[.int .i64 dx, .int .i64 dy], .int .i64 0]) (by simp [results, Try.results13, go_sem, k0, k1]) rfl ⟨ret_cross hX.symm hY.symm rfl, k3⟩
          | false =>
            go_wp2
            go_roundw
            case rel => exact ⟨2, by omega, by omega, by go_num, Lib.hid (fun _ => Z1.out (by omega)), Lib.hid (by simp), H4⟩
            case measure => simp [intOf] <;> omega
        · go_wp2
          go_meet
          exact ⟨Lib.hid (Z1.out (by omega)), Lib.hid (Z2.out (by omega)), H3⟩
    case rest =>
    clear H2 O3 O4 K3 K4
    clear c0 c1 c2 c3 c4 c5 c6 c7 d0 d1 y0
    obtain ⟨Q3, Q4, H2⟩ := hcut
    obtain ⟨⟨c0, c1, c2, c3, c4, c5, c6, c7, -⟩, ⟨d0, d1, y0⟩⟩ := H2.out
    obtain ⟨rfl, rfl, hm0, hrg⟩ := K5.out Q1.out Q2.out Q3.out Q4.out
    clear K5 Q1 Q2 Q3 Q4
    have n1 := cr_in HN.out.1 HN.out.2.2.1 HN.out.2.2.1 HN.out.2.2.2
    have m1 := cr_in HN.out.1 HN.out.2.1 HN.out.2.2.1 HN.out.2.2.2
    have e1 : twF cx cy dx dy ax ay = cr ax ay cx cy cx cy dx dy := by
      unfold twF; rw [if_pos ((near3_iff _ _ _ _ _ _).2 ⟨HN.out.2.2.1, HN.out.2.2.2, HN.out.1⟩)]; unfold tw cr; grind
    have e2 : twF cx cy dx dy bx by_ = cr ax ay cx cy cx cy dx dy - cr ax ay bx by_ cx cy dx dy := by
      unfold twF; rw [if_pos ((near3_iff _ _ _ _ _ _).2 ⟨HN.out.2.2.1, HN.out.2.2.2, HN.out.2.1⟩)]; unfold tw cr; grind
    have T1 := Lib.hid (fun v => Twice_any cx cy dx dy ax ay v)
    have T2 := Lib.hid (fun v => Twice_any cx cy dx dy bx by_ v)
    rw [e1] at T1
    rw [e2] at T2
    clear e1 e2
    have hna := HN.out.1
    have hnb := HN.out.2.1
    unfold Nr at hna hnb
    have RX := rnd_bound (n := bx - ax) (k := cr ax ay cx cy cx cy dx dy) (d := cr ax ay bx by_ cx cy dx dy) (M := 4194304) hm0 (by omega) hrg
    have RY := rnd_bound (n := by_ - ay) (k := cr ax ay cx cy cx cy dx dy) (d := cr ax ay bx by_ cx cy dx dy) (M := 4194304) hm0 (by omega) hrg
    have SH := Lib.hid (fun (h : 0 < cr ax ay bx by_ cx cy dx dy) v => share_any (bx - ax) (cr ax ay cx cy cx cy dx dy) (cr ax ay bx by_ cx cy dx dy) v (by omega) (by omega) h (by omega))
    have SI := Lib.hid (fun (h : 0 < cr ax ay bx by_ cx cy dx dy) v => share_any (by_ - ay) (cr ax ay cx cy cx cy dx dy) (cr ax ay bx by_ cx cy dx dy) v (by omega) (by omega) h (by omega))
    have SJ := Lib.hid (fun (h : cr ax ay bx by_ cx cy dx dy < 0) v => share_any (bx - ax) (-cr ax ay cx cy cx cy dx dy) (-cr ax ay bx by_ cx cy dx dy) v (by omega) (by omega) (by omega) (by omega))
    have SK := Lib.hid (fun (h : cr ax ay bx by_ cx cy dx dy < 0) v => share_any (by_ - ay) (-cr ax ay cx cy cx cy dx dy) (-cr ax ay bx by_ cx cy dx dy) v (by omega) (by omega) (by omega) (by omega))
    simp only [Int.mul_neg, rnd_neg_neg _ _ hm0] at SJ SK
    generalize rnd ((bx - ax) * cr ax ay cx cy cx cy dx dy) (cr ax ay bx by_ cx cy dx dy) = X at *
    generalize rnd ((by_ - ay) * cr ax ay cx cy cx cy dx dy) (cr ax ay bx by_ cx cy dx dy) = Y at *
    generalize cr ax ay cx cy cx cy dx dy = n at *
    generalize cr ax ay bx by_ cx cy dx dy = m at *
    clear HN
    have L0 := fun k : Later wc => k.cell c0
    have L1 := fun k : Later wc => k.cell c1
    have L2 := fun k : Later wc => k.cell c2
    have L3 := fun k : Later wc => k.cell c3
    have L4 := fun k : Later wc => k.cell c4
    have L5 := fun k : Later wc => k.cell c5
    have L6 := fun k : Later wc => k.cell c6
    have L7 := fun k : Later wc => k.cell c7
    go_wp2_with fail
    refine region_later (by kernel_rfl) (by kernel_rfl) ?_
    (go_big_quiet_want; go_big_quiet_op; go_big_quiet_on)
    (go_big_quiet_want; go_big_quiet_op; go_big_quiet_on)
    (go_big_quiet_want; go_big_quiet_op; go_big_quiet_on)
    (go_big_quiet_want; go_big_quiet_op; go_big_quiet_call (exact later_of (T1.out _)))
    (go_big_quiet_want; go_big_quiet_op; go_big_quiet_on)
    (go_big_quiet_want; go_big_quiet_op; go_big_quiet_on)
    (go_big_quiet_want; go_big_quiet_op; go_big_quiet_on)
    (go_big_quiet_want; go_big_quiet_op; go_big_quiet_call (exact later_of (T1.out _)))
    (go_big_quiet_want; go_big_quiet_op; go_big_quiet_on)
    (go_big_quiet_want; go_big_quiet_op; go_big_quiet_on)
    (go_big_quiet_want; go_big_quiet_op; go_big_quiet_on)
    (go_big_quiet_want; go_big_quiet_op; go_big_quiet_call (exact later_of (T2.out _)))
    (go_big_quiet_want; go_big_quiet_op; go_big_quiet_on)
    (go_big_quiet_want; go_big_quiet_op; go_big_quiet_on)
    (go_big_quiet_want; go_big_quiet_op; go_big_quiet_on)
    refine wpQuiet_nil ?_
    refine later_end ?_
    intro k
    have H7 := Lib.hid (H2.out.later k.below)
    clear H2 L0 L1 L2 L3 L4 L5 L6 L7 T1 T2
    clear c0 c1 c2 c3 c4 c5 c6 c7 d0 d1 y0
    generalize k.wd = u at *
    clear k
    obtain ⟨⟨c0, c1, c2, c3, c4, c5, c6, c7, -⟩, ⟨d0, d1, y0⟩⟩ := H7.out
    have hmn : n - (n - m) = m := by omega
    rcases Int.lt_or_gt_of_ne (fun h => hm0 (Eq.symm h)) with hs | hs
    · have hm1 : decide (m < 0) = false := by simp; omega
      have S1 := Lib.hid (SH.out (by omega))
      have S2 := Lib.hid (SI.out (by omega))
      clear SH SI SJ SK hrg hm0 hs
      go_wp2_with fail
      refine region_free (P := Try.prog) 23 23 101 23 (.cells #[.int .i64 0, .int .i64 0] 23) (by kernel_rfl) (by decide) (by kernel_rfl) ?_ (by kernel_rfl) (by kernel_rfl) alloc_pt ?_
      · rfl
      apply Exists.intro
      refine ⟨?hq0, ?hfin0⟩
      case hq0 =>
        intro X' hne
        haveI := hne
        simp only [List.take_succ_cons, List.take_zero]
        have L0 := fun m' : LaterX u X' => m'.cell c0
        have L1 := fun m' : LaterX u X' => m'.cell c1
        have L2 := fun m' : LaterX u X' => m'.cell c2
        have L3 := fun m' : LaterX u X' => m'.cell c3
        (go_big_quiet_want; go_big_quiet_op; go_big_quiet_on)
        (go_big_quiet_want; go_big_quiet_op; go_big_quiet_on)
        (go_big_quiet_want; go_big_quiet_op; go_big_quiet_on)
        (go_big_quiet_want; go_big_quiet_op; go_big_quiet_on)
        (go_big_quiet_want; go_big_quiet_op; go_big_quiet_on)
        (go_big_quiet_want; go_big_quiet_op; go_big_quiet_on)
        (go_big_quiet_want; go_big_quiet_op; go_big_quiet_on)
        (go_big_quiet_want; go_big_quiet_op; go_big_quiet_on)
        (go_big_quiet_want; go_big_quiet_op; go_big_quiet_on)
        (go_big_quiet_want; go_big_quiet_op; go_big_quiet_call (exact laterX_of (S1.out _)))
        (go_big_quiet_want; go_big_quiet_op; go_big_quiet_on)
        (go_big_quiet_want; go_big_quiet_op; go_big_quiet_on)
        (go_big_quiet_want; go_big_quiet_op; go_big_quiet_on)
        (go_big_quiet_want; go_big_quiet_op; go_big_quiet_on)
        (go_big_quiet_want; go_big_quiet_op; go_big_quiet_on)
        (go_big_quiet_want; go_big_quiet_op; go_big_quiet_on)
        (go_big_quiet_want; go_big_quiet_op; go_big_quiet_on)
        (go_big_quiet_want; go_big_quiet_op; go_big_quiet_on)
        (go_big_quiet_want; go_big_quiet_op; go_big_quiet_on)
        (go_big_quiet_want; go_big_quiet_op; go_big_quiet_on)
        (go_big_quiet_want; go_big_quiet_op; go_big_quiet_call (exact laterX_of (S2.out _)))
        (go_big_quiet_want; go_big_quiet_op; go_big_quiet_on)
        (go_big_quiet_want; go_big_quiet_op; go_big_quiet_on)
        exact wpQuiet_nil rfl
      intro G w8 hb hG hd
      simp only [List.take_succ_cons, List.take_zero, List.drop_succ_cons, List.drop_zero, ptrs, putsL]
      have H8 := Lib.hid (H7.out.later hb)
      clear H7 hG hd hb S1 S2
      clear c0 c1 c2 c3 c4 c5 c6 c7 d0 d1 y0
      obtain ⟨⟨c0, c1, c2, c3, c4, c5, c6, c7, -⟩, ⟨d0, d1, y0⟩⟩ := H8.out
      go_wp2
      obtain ⟨⟨k0, k1, k2⟩, k3⟩ := cross_end H8.out (ax + X) (ay + Y)
      exact bodyPost_ret (v := .tuple #[.agg #[.int .i64 (ax + X), .int .i64 (ay + Y)], .int .i64 0]) (by simp [results, Try.results13, go_sem, k0, k1]) rfl ⟨rfl, k3⟩
    · have hm1 : decide (m < 0) = true := by simp; omega
      have S1 := Lib.hid (SJ.out (by omega))
      have S2 := Lib.hid (SK.out (by omega))
      clear SH SI SJ SK hrg hm0 hs
      go_wp2_with fail
      refine region_free (P := Try.prog) 23 23 101 23 (.cells #[.int .i64 0, .int .i64 0] 23) (by kernel_rfl) (by decide) (by kernel_rfl) ?_ (by kernel_rfl) (by kernel_rfl) alloc_pt ?_
      · rfl
      apply Exists.intro
      refine ⟨?hq1, ?hfin1⟩
      case hq1 =>
        intro X' hne
        haveI := hne
        simp only [List.take_succ_cons, List.take_zero]
        have L0 := fun m' : LaterX u X' => m'.cell c0
        have L1 := fun m' : LaterX u X' => m'.cell c1
        have L2 := fun m' : LaterX u X' => m'.cell c2
        have L3 := fun m' : LaterX u X' => m'.cell c3
        (go_big_quiet_want; go_big_quiet_op; go_big_quiet_on)
        (go_big_quiet_want; go_big_quiet_op; go_big_quiet_on)
        (go_big_quiet_want; go_big_quiet_op; go_big_quiet_on)
        (go_big_quiet_want; go_big_quiet_op; go_big_quiet_on)
        (go_big_quiet_want; go_big_quiet_op; go_big_quiet_on)
        (go_big_quiet_want; go_big_quiet_op; go_big_quiet_on)
        (go_big_quiet_want; go_big_quiet_op; go_big_quiet_on)
        (go_big_quiet_want; go_big_quiet_op; go_big_quiet_on)
        (go_big_quiet_want; go_big_quiet_op; go_big_quiet_on)
        (go_big_quiet_want; go_big_quiet_op; go_big_quiet_call (exact laterX_of (S1.out _)))
        (go_big_quiet_want; go_big_quiet_op; go_big_quiet_on)
        (go_big_quiet_want; go_big_quiet_op; go_big_quiet_on)
        (go_big_quiet_want; go_big_quiet_op; go_big_quiet_on)
        (go_big_quiet_want; go_big_quiet_op; go_big_quiet_on)
        (go_big_quiet_want; go_big_quiet_op; go_big_quiet_on)
        (go_big_quiet_want; go_big_quiet_op; go_big_quiet_on)
        (go_big_quiet_want; go_big_quiet_op; go_big_quiet_on)
        (go_big_quiet_want; go_big_quiet_op; go_big_quiet_on)
        (go_big_quiet_want; go_big_quiet_op; go_big_quiet_on)
        (go_big_quiet_want; go_big_quiet_op; go_big_quiet_on)
        (go_big_quiet_want; go_big_quiet_op; go_big_quiet_call (exact laterX_of (S2.out _)))
        (go_big_quiet_want; go_big_quiet_op; go_big_quiet_on)
        (go_big_quiet_want; go_big_quiet_op; go_big_quiet_on)
        exact wpQuiet_nil rfl
      intro G w8 hb hG hd
      simp only [List.take_succ_cons, List.take_zero, List.drop_succ_cons, List.drop_zero, ptrs, putsL]
      have H8 := Lib.hid (H7.out.later hb)
      clear H7 hG hd hb S1 S2
      clear c0 c1 c2 c3 c4 c5 c6 c7 d0 d1 y0
      obtain ⟨⟨c0, c1, c2, c3, c4, c5, c6, c7, -⟩, ⟨d0, d1, y0⟩⟩ := H8.out
      go_wp2
      obtain ⟨⟨k0, k1, k2⟩, k3⟩ := cross_end H8.out (ax + X) (ay + Y)
      exact bodyPost_ret (v := .tuple #[.agg #[.int .i64 (ax + X), .int .i64 (ay + Y)], .int .i64 0]) (by simp [results, Try.results13, go_sem, k0, k1]) rfl ⟨rfl, k3⟩
end Go.Proofs.Ytpdiojndfckmfaa
