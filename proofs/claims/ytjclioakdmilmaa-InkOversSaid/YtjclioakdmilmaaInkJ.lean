/- The contract of ink.fill. -/
import Derived.Test.YtjclioakdmilmaaInkI
namespace Go.Proofs.Ytjclioakdmilmaa
open Go.RowKit
open Num Ink
set_option linter.unusedVariables false
theorem run_max (a b : Int) (v : World) : Sem.run Try.prog (Builtin.max_ #[3, 3] 3 #[.int .i64 a, .int .i64 b]) v = .ok (.int .i64 (max a b)) v := by
  have h : (if b > a then b else a) = max a b := by split <;> omega
  rw [← h]
  simp [go_sem, Builtin.max_, Builtin.max2]
theorem run_min (a b : Int) (v : World) : Sem.run Try.prog (Builtin.min_ #[3, 3] 3 #[.int .i64 a, .int .i64 b]) v = .ok (.int .i64 (min a b)) v := by
  have h : (if b < a then b else a) = min a b := by split <;> omega
  rw [← h]
  simp [go_sem, Builtin.min_, Builtin.min2]
theorem filP_none {W : Nat} {x0 y0 x1 y1 : Int} {ik : Nat → Int} {V : Pic} {i j : Nat} (hW : 0 < W) (h : min x1 ((W : Int) - 1) < max x0 0) : filP W x0 y0 x1 y1 ik V i j = V i j := by
  unfold filP
  rw [if_neg]
  have hq : j % W < W := Nat.mod_lt _ hW
  generalize j % W = q at *
  omega
set_option maxRecDepth 100000 in
set_option maxHeartbeats 8000000 in
theorem fill_any (k x0 y0 x1 y1 : Int) (s : Value) (a b c d W H : Int) (o n w' : Nat) (g cc : Nat → Nat) (V : Pic) (w : World) (hP : Pls w o g cc n W H V) (hn : (n : Int) = W * H) (hW : 1 ≤ W ∧ W ≤ 256) (hH : 1 ≤ H ∧ H ≤ 256) (hw' : W = (w' : Int))
    (hb1 : -4096 ≤ x0 ∧ x0 ≤ 4096) (hb2 : -4096 ≤ y0 ∧ y0 ≤ 4096) (hb3 : -4096 ≤ x1 ∧ x1 ≤ 4096) (hb4 : -4096 ≤ y1 ∧ y1 ≤ 4096) :
    Calls Try.prog 36 #[.pointer (some ⟨o, 0, none⟩), dw k x0 y0 x1 y1 s a b c d] w
      fun e u => e = .returned (.tuple #[]) ∧ PutR o g cc n W H (filP w' x0 y0 x1 y1 (ik4 a b c d) V) w u := by
  have HP0 := Lib.hid hP
  have HN := Lib.hid hn
  have hn6 := n_le hn ⟨by omega, hW.2⟩ ⟨by omega, hH.2⟩
  have o0 := hP.wd 0 (by omega)
  have o1 := hP.ht 0 (by omega)
  have hgl : Hid (∀ i, i < 4 → g i < w.heap.size) := Lib.hid (fun i hi => hP.glt i hi)
  clear hP hn
  unfold dw
  have D0 := Lib.hid (Dw.new w k x0 y0 x1 y1 s a b c d 27)
  have b0 := below_al w (.cells #[.int .i64 k, .int .i64 x0, .int .i64 y0, .int .i64 x1, .int .i64 y1, s, .int .i64 a, .int .i64 b, .int .i64 c, .int .i64 d] 27)
  have o0 := cell_on o0 b0
  have o1 := cell_on o1 b0
  have G0 := Lib.hid b0
  clear b0
  obtain ⟨X0, hX0⟩ : ∃ X0 : Nat, max x0 0 = (X0 : Int) := ⟨(max x0 0).toNat, by omega⟩
  obtain ⟨Y0, hY0⟩ : ∃ Y0 : Nat, max y0 0 = (Y0 : Int) := ⟨(max y0 0).toNat, by omega⟩
  obtain ⟨X1, hX1⟩ : ∃ X1 : Int, min x1 (W - 1) = X1 := ⟨_, rfl⟩
  obtain ⟨Y1, hY1⟩ : ∃ Y1 : Int, min y1 (H - 1) = Y1 := ⟨_, rfl⟩
  have M1 := fun v => run_max x0 0 v
  have M2 := fun v => run_max y0 0 v
  have M3 := fun v => run_min x1 (W - 1) v
  have M4 := fun v => run_min y1 (H - 1) v
  rw [hX0] at M1
  rw [hY0] at M2
  rw [hX1] at M3
  rw [hY1] at M4
  have e3 : wrap64 (W - 1) = W - 1 := w64i _ (by omega) (by omega)
  have e4 : wrap64 (H - 1) = H - 1 := w64i _ (by omega) (by omega)
  have E3 := Lib.hid e3
  have E4 := Lib.hid e4
  have N1 := Lib.hid M1
  have N2 := Lib.hid M2
  have N3 := Lib.hid M3
  have N4 := Lib.hid M4
  have HX0 := Lib.hid hX0
  have HY0 := Lib.hid hY0
  have HX1 := Lib.hid hX1
  have HY1 := Lib.hid hY1
  have bX0 : (X0 : Int) ≤ 4096 := by omega
  have bY0 : (Y0 : Int) ≤ 4096 := by omega
  have bX1 : -4096 ≤ X1 ∧ X1 ≤ W - 1 := by omega
  have bY1 : -4096 ≤ Y1 ∧ Y1 ≤ H - 1 := by omega
  have HB : Hid ((-4096 ≤ x0 ∧ x0 ≤ 4096) ∧ (-4096 ≤ y0 ∧ y0 ≤ 4096) ∧ (-4096 ≤ x1 ∧ x1 ≤ 4096) ∧ (-4096 ≤ y1 ∧ y1 ≤ 4096)) := Lib.hid ⟨hb1, hb2, hb3, hb4⟩
  have HWW := Lib.hid hw'
  clear M1 M2 M3 M4 e3 e4 hX0 hY0 hX1 hY1 hb1 hb2 hb3 hb4 hw'
  go_enter Try.func36, Try.ntmps36
  go_upto_region 1 with fail
  generalize hw1 : w.alloc (.cells #[.int .i64 k, .int .i64 x0, .int .i64 y0, .int .i64 x1, .int .i64 y1, s, .int .i64 a, .int .i64 b, .int .i64 c, .int .i64 d] 27) = w1 at *
  clear hw1
  have L1 := fun m : Later w1 => m.cell o0
  have L2 := fun m : Later w1 => m.cell o1
  refine region_later (by kernel_rfl) (by kernel_rfl) ?_
  iterate 12 (go_big_quiet_want; go_big_quiet_op; go_big_quiet_on)
  refine wpQuiet_nil ?_
  refine later_end ?_
  intro m
  have D1 := Lib.hid (D0.out.later m.below)
  have G1 := Lib.hid (below_on G0.out m.below)
  clear L1 L2 o0 o1 D0 G0
  generalize m.wd = w2 at *
  clear m
  obtain ⟨h0, h1, h2, h3, h4, h5, h6, h7, h8, h9⟩ := D1.out
  go_upto_region 2 with fail
  have L1 := fun m : Later w2 => m.cell h1
  have L3 := fun m : Later w2 => m.cell h3
  have e3 := E3.out
  have M1 := N1.out
  have M3 := N3.out
  refine region_later (by kernel_rfl) (by kernel_rfl) ?_
  iterate 12 (go_big_quiet_want; go_big_quiet_op; go_big_quiet_on)
  refine wpQuiet_nil ?_
  refine later_end ?_
  intro m
  have D2 := Lib.hid (D1.out.later m.below)
  have G2 := Lib.hid (below_on G1.out m.below)
  clear L1 L3 e3 M1 M3 E3 N1 N3 D1 G1 h0 h1 h2 h3 h4 h5 h6 h7 h8 h9
  generalize m.wd = w3 at *
  clear m
  obtain ⟨h0, h1, h2, h3, h4, h5, h6, h7, h8, h9⟩ := D2.out
  go_upto_region 3 with fail
  have L2 := fun m : Later w3 => m.cell h2
  have L4 := fun m : Later w3 => m.cell h4
  have e4 := E4.out
  have M2 := N2.out
  have M4 := N4.out
  refine region_later (by kernel_rfl) (by kernel_rfl) ?_
  iterate 12 (go_big_quiet_want; go_big_quiet_op; go_big_quiet_on)
  refine wpQuiet_nil ?_
  refine later_end ?_
  intro m
  have D3 := Lib.hid (D2.out.later m.below)
  have G3 := Lib.hid (below_on G2.out m.below)
  clear L2 L4 e4 M2 M4 E4 N2 N4 D2 G2 h0 h1 h2 h3 h4 h5 h6 h7 h8 h9
  generalize m.wd = w4 at *
  clear m
  obtain ⟨h0, h1, h2, h3, h4, h5, h6, h7, h8, h9⟩ := D3.out
  clear h0 h1 h2 h3 h4 h5
  have HP4 := Lib.hid (HP0.out.later G3.out)
  by_cases hx : X1 < (X0 : Int)
  · have R0 : Hid (PutR o g cc n W H (filP w' x0 y0 x1 y1 (ik4 a b c d) V) w w4) := Lib.hid ⟨HP4.out.congr (fun i hi j hj => filP_none (by have := HWW.out; omega) (by have := HX0.out; have := HX1.out; have := HWW.out; omega)), Kp.of G3.out⟩
    have d1 : decide (X1 < (X0 : Int)) = true := by simpa using hx
    clear HP0 HP4 hx
    go_wp2
    exact bodyPost_ret (results_none rfl _ _ _) rfl ⟨rfl, R0.out⟩
  have d1 : decide (X1 < (X0 : Int)) = false := by simpa using hx
  obtain ⟨L, hL⟩ : ∃ L : Nat, (X0 : Int) + L = X1 + 1 := ⟨(X1 + 1 - X0).toNat, by omega⟩
  have HL := Lib.hid hL
  have HL1 : Hid (X0 + L ≤ w') := Lib.hid (by have := HWW.out; omega)
  have S0 : Hid (PutR o g cc n W H (fl3 w' X0 L Y0 (ik4 a b c d) V Y0 0 0) w4 w4) := Lib.hid ⟨HP4.out.congr fun i hi j hj => fl3_start _ _ _ _ _ _ i j, Kp.refl _ _⟩
  have NK : Hid (∀ i, i < 4 → w.heap.size ≠ g i) := Lib.hid (fun i hi e => by have := hgl.out i hi; omega)
  clear hL hx HP0 HP4
  go_wp2_with fail
  go_loopw [10] (fun i wr => ∃ y : Nat, Y0 ≤ y ∧ ((y : Int) ≤ Y1 + 1 ∨ y = Y0) ∧ i = .int .i64 y ∧ Hid (PutR o g cc n W H (fl3 w' X0 L Y0 (ik4 a b c d) V y 0 0) w4 wr)) (fun i _ => (Y1 + 1 - intOf i).toNat)
  case atStart => exact ⟨Y0, Nat.le_refl _, .inr rfl, rfl, S0⟩
  case round =>
    obtain ⟨y, hy, hy2, rfl, HR⟩ := hrel
    by_cases hlt : (y : Int) ≤ Y1
    · have d2 : decide ((y : Int) ≤ Y1) = true := by simpa using hlt
      have z1 : 0 ≤ (y : Int) * W := Int.mul_nonneg (by omega) (by omega)
      have z2 : (y : Int) * W ≤ (n : Int) - W := by
        have a2 : (y : Int) * W ≤ (H - 1) * W := Int.mul_le_mul_of_nonneg_right (by omega) (by omega)
        have a3 : (H - 1) * W = W * H - W := by rw [Int.sub_mul, Int.one_mul, Int.mul_comm]
        have := HN.out
        omega
      obtain ⟨F, hF⟩ : ∃ F : Nat, (y : Int) * W + X0 = (F : Int) := ⟨((y : Int) * W + X0).toNat, by omega⟩
      have hFn : y * w' + X0 = F := by have h := hF; rw [HWW.out] at h; exact_mod_cast h
      have hT : (y : Int) * W + X1 + 1 = ((F + L : Nat) : Int) := by have := HL.out; omega
      have hTn : F + L ≤ n := by have := HL.out; have := HL1.out; have := HWW.out; omega
      have hL0 : 0 < L := by have := HL.out; have : ¬ X1 < (X0 : Int) := by simpa using d1
                             omega
      have HF := Lib.hid hF
      have HT := Lib.hid hT
      have HFN := Lib.hid hFn
      clear hFn
      have x6 := HR.out.2.cell h6 NK.out
      have x7 := HR.out.2.cell h7 NK.out
      have x8 := HR.out.2.cell h8 NK.out
      have x9 := HR.out.2.cell h9 NK.out
      generalize hTT : F + L = T at *
      have HTT := Lib.hid hTT
      clear hTT
      go_wp2_with fail
      go_loopw [69] (fun i wr => ∃ p : Nat, p ≤ 4 ∧ i = .int .i64 p ∧ Hid (PutR o g cc n W H (fl3 w' X0 L Y0 (ik4 a b c d) V y p 0) w4 wr)) (fun i _ => 4 - (intOf i).toNat)
      case atStart => exact ⟨0, by omega, rfl, HR⟩
      case round =>
        obtain ⟨p, hp, rfl, HM⟩ := hrel
        by_cases hpt : p < 4
        · have q1 : (0 : Int) ≤ (p : Int) := by omega
          have q2 : (p : Int) < 4 := by omega
          have IX := fun v => idx25_any a b c d p hpt v
          have y1' := HM.out.1.sl p hpt
          have y2' := HM.out.1.cp p hpt
          have hd : T - F = L := by have := HTT.out; omega
          have hd2 : ¬ L = 0 := by omega
          have hd3 : F < T := by have := HTT.out; omega
          go_wp2_with fail
          clear y1' y2' IX
          have L1 : (L : Int) ≤ 256 := by have := HL.out; omega
          go_loopw [85] (fun i wr => ∃ m : Nat, m ≤ L ∧ i = .int .i64 m ∧ Hid (PutR o g cc n W H (fl3 w' X0 L Y0 (ik4 a b c d) V y p m) w4 wr)) (fun i _ => L - (intOf i).toNat)
          case atStart => exact ⟨0, by omega, rfl, HM⟩
          case round =>
            obtain ⟨m, hm, rfl, HI⟩ := hrel
            by_cases hml : m < L
            · have q3 : (0 : Int) ≤ (m : Int) := by omega
              have q4 : (m : Int) < (L : Int) := by omega
              have hFm : F + m < n := by have := HTT.out; omega
              have z7 := HI.out.1.px p hpt (F + m) hFm
              have z8 := HI.out.1.fr p hpt (F + m)
              have HI2 : Hid (PutR o g cc n W H (fl3 w' X0 L Y0 (ik4 a b c d) V y p (m + 1)) w4 (wr.setCell ⟨g p, F + m, none⟩ (.int .i64 (ik4 a b c d p)))) := Lib.hid ⟨(HI.out.1.put hpt hFm (ik4 a b c d p)).congr fun i hi j hj => by rw [fl3_set, HFN.out]; rfl, HI.out.2.set hpt _ _⟩
              clear HI hd hd2 hd3 hL0
              go_wp2
              go_roundw
              case rel => exact ⟨m + 1, by omega, by go_num, HI2⟩
              case measure => simp [intOf] <;> omega
            · have hme : m = L := by omega
              have HM2 : Hid (PutR o g cc n W H (fl3 w' X0 L Y0 (ik4 a b c d) V y (p + 1) 0) w4 wr) := Lib.hid ⟨HI.out.1.congr fun i hi j hj => by rw [hme]; exact fl3_plate _ _ _ _ _ _ _ _ i j, HI.out.2⟩
              clear HI hd hd2 hd3 hL0 hme
              go_wp2
              go_roundw
              case rel => exact ⟨p + 1, by omega, by go_num, HM2⟩
              case measure => simp [intOf] <;> omega
        · obtain rfl : p = 4 := by omega
          have HM2 : Hid (PutR o g cc n W H (fl3 w' X0 L Y0 (ik4 a b c d) V (y + 1) 0 0) w4 wr) := Lib.hid ⟨HM.out.1.congr fun i hi j hj => fl3_row _ _ _ _ _ _ _ i j hy hi, HM.out.2⟩
          clear HM HR HF HT hF hT hL0
          go_wp2
          go_roundw
          case rel => exact ⟨y + 1, by omega, .inl (by omega), by go_num, HM2⟩
          case measure => simp [intOf] <;> omega
    · have d2 : decide ((y : Int) ≤ Y1) = false := by simpa using hlt
      have f1 := HWW.out
      have f2 := HX1.out
      have f3 := HY1.out
      have f4 := HL.out
      have f5 := HN.out
      have g1 : 0 < w' := by omega
      have g2 : (X0 : Int) + L = min x1 ((w' : Int) - 1) + 1 := by rw [← f1]; omega
      have g3 : ((y : Int) = min y1 (H - 1) + 1) ∨ (y = Y0 ∧ min y1 (H - 1) < (y : Int)) := by
        rw [f3]
        by_cases h : (y : Int) = Y1 + 1
        · exact .inl h
        · exact .inr ⟨by omega, by omega⟩
      have R1 : Hid (PutR o g cc n W H (filP w' x0 y0 x1 y1 (ik4 a b c d) V) w wr) := Lib.hid ⟨HR.out.1.congr fun i hi j hj => fl3_end w' X0 L Y0 y x0 y0 x1 y1 H _ V i j g1 HX0.out.symm g2 HL1.out HY0.out.symm g3 (by rw [← f1]; omega), (Kp.of G3.out).trans HR.out.2⟩
      clear f1 f2 f3 f4 f5 g1 g2 g3
      clear HR hlt
      go_wp2
      go_end0
      exact ⟨rfl, R1.out⟩
end Go.Proofs.Ytjclioakdmilmaa
