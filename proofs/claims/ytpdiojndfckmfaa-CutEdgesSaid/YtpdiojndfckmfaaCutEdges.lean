/- CutEdges returns true for all segments, boxes and edges: the walk. -/
import Derived.Test.YtpdiojndfckmfaaCutWithin
import Derived.Test.YtpdiojndfckmfaaCutPlainF
namespace Go.Proofs.Ytpdiojndfckmfaa
open Go.RowKit
open Num Geo Cut
set_option linter.unusedVariables false
set_option maxHeartbeats 1000000 in
theorem turn_any (ax ay : Int) (w : World) :
    Calls Try.prog 11 #[.agg #[.int .i64 ax, .int .i64 ay]] w fun e w' => e = .returned (.agg #[.int .i64 ay, .int .i64 ax]) ∧ Below w.heap.size w w' := by
  go_enter Try.func11, Try.ntmps11
  go_wp2
  exact bodyPost_ret (v := .agg #[.int .i64 ay, .int .i64 ax]) (by simp [results, Try.results11, go_sem]) rfl ⟨rfl, by go_grown⟩
set_option maxRecDepth 100000 in
set_option maxHeartbeats 8000000 in
theorem meets_true (ax ay bx by_ x0 y0 m y1 e0 f0 e1 f1 V : Int) (w : World) (h1 : clO ax ay bx by_ x0 y0 m y1 = true) (h2 : clZ ax ay bx by_ x0 y0 m y1 = m) (h3 : clW ax ay bx by_ x0 y0 m y1 = V)
    (h4 : clO ax ay bx by_ e0 f0 e1 f1 = true) (h5 : clX ax ay bx by_ e0 f0 e1 f1 = m) (h6 : clY ax ay bx by_ e0 f0 e1 f1 = V) (h7 : atE ax ay bx by_ m = 0) (h8 : atV ax ay bx by_ m = V)
    (i1 : I64 x0) (i2 : I64 y0) (i3 : I64 m) (i4 : I64 y1) (i5 : I64 e0) (i6 : I64 f0) (i7 : I64 e1) (i8 : I64 f1) :
    Calls Try.prog 10 #[.agg #[.int .i64 ax, .int .i64 ay], .agg #[.int .i64 bx, .int .i64 by_], .agg #[.int .i64 x0, .int .i64 y0, .int .i64 m, .int .i64 y1], .agg #[.int .i64 e0, .int .i64 f0, .int .i64 e1, .int .i64 f1]] w
      fun e w' => e = .returned (.bool true) ∧ Below w.heap.size w w' := by
  have C1 := Lib.hid (fun u => clip_nm ax ay bx by_ x0 y0 m y1 u i1 i2 i3 i4)
  have C2 := Lib.hid (fun u => clip_nm ax ay bx by_ e0 f0 e1 f1 u i5 i6 i7 i8)
  have C3 := Lib.hid (fun u => AtX_any ax ay bx by_ m u i3)
  rw [h1, h2, h3] at C1
  rw [h4, h5, h6] at C2
  rw [h7, h8] at C3
  clear h1 h2 h3 h4 h5 h6 h7 h8 i1 i2 i3 i4 i5 i6 i7 i8
  generalize clX ax ay bx by_ x0 y0 m y1 = p at *
  generalize clY ax ay bx by_ x0 y0 m y1 = q at *
  generalize clZ ax ay bx by_ e0 f0 e1 f1 = r at *
  generalize clW ax ay bx by_ e0 f0 e1 f1 = s at *
  have T0 := Lib.hid (W3.new w ax ay bx by_ x0 y0 m y1)
  have s3 : (((w.alloc (.cells #[.int .i64 ax, .int .i64 ay] 23)).alloc (.cells #[.int .i64 bx, .int .i64 by_] 23)).alloc (.cells #[.int .i64 x0, .int .i64 y0, .int .i64 m, .int .i64 y1] 25)).heap.size = w.heap.size + 1 + 1 + 1 := by simp
  go_enter Try.func10, Try.ntmps10
  go_upto_region 1 with fail
  generalize ((w.alloc (.cells #[.int .i64 ax, .int .i64 ay] 23)).alloc (.cells #[.int .i64 bx, .int .i64 by_] 23)).alloc (.cells #[.int .i64 x0, .int .i64 y0, .int .i64 m, .int .i64 y1] 25) = w0 at *
  have e4 := Pl.new w0 e0 f0 e1 f1 25
  rw [s3] at e4
  have E0 := Lib.hid e4
  have T1 := Lib.hid (T0.out.1.later (below_al w0 (.cells #[.int .i64 e0, .int .i64 f0, .int .i64 e1, .int .i64 f1] 25)))
  have G1 := Lib.hid (below_on T0.out.2 (below_al w0 (.cells #[.int .i64 e0, .int .i64 f0, .int .i64 e1, .int .i64 f1] 25)))
  clear e4 s3 T0
  generalize w0.alloc (.cells #[.int .i64 e0, .int .i64 f0, .int .i64 e1, .int .i64 f1] 25) = v0 at *
  obtain ⟨⟨c0, c1, -⟩, ⟨c2, c3, -⟩, ⟨c4, c5, c6, c7, -⟩⟩ := T1.out
  obtain ⟨d4, d5, d6, d7, -⟩ := E0.out
  go_wp2_with fail
  refine (C1.out _).mono ?_
  rintro e w1 ⟨rfl, hb⟩
  obtain ⟨tc, td, tb⟩ := two_new w1 p q m V
  have T2 := Lib.hid (T1.out.later (below_on hb tb))
  have E2 := Lib.hid (E0.out.later (below_on hb tb))
  have G2 := Lib.hid (below_on G1.out (below_on hb tb))
  have TD := Lib.hid td
  clear hb tc td tb T1 E0 G1 C1 c0 c1 c2 c3 c4 c5 c6 c7 d4 d5 d6 d7
  go_upto_region 2 with fail
  generalize (w1.alloc (.cells #[.int .i64 p, .int .i64 q] 23)).alloc (.cells #[.int .i64 m, .int .i64 V] 23) = v1 at *
  generalize w1.heap.size = n9 at *
  obtain ⟨⟨c0, c1, -⟩, ⟨c2, c3, -⟩, ⟨c4, c5, c6, c7, -⟩⟩ := T2.out
  obtain ⟨d4, d5, d6, d7, -⟩ := E2.out
  go_wp2_with fail
  refine (C2.out _).mono ?_
  rintro e w2 ⟨rfl, hb⟩
  obtain ⟨tp, tq, tb⟩ := two_new w2 m V r s
  have T3 := Lib.hid (T2.out.later (below_on hb tb))
  have G3 := Lib.hid (below_on G2.out (below_on hb tb))
  have TD3 := Lib.hid (TD.out.later (below_on hb tb))
  have TP := Lib.hid tp
  clear hb tp tq tb T2 E2 G2 TD C2 c0 c1 c2 c3 c4 c5 c6 c7 d4 d5 d6 d7
  go_upto_region 3 with fail
  generalize (w2.alloc (.cells #[.int .i64 m, .int .i64 V] 23)).alloc (.cells #[.int .i64 r, .int .i64 s] 23) = v2 at *
  generalize w2.heap.size = n12 at *
  obtain ⟨⟨c0, c1, -⟩, ⟨c2, c3, -⟩, ⟨c4, c5, c6, c7, -⟩⟩ := T3.out
  go_wp2_with fail
  refine (C3.out _).mono ?_
  rintro e w3 ⟨rfl, hb⟩
  have T4 := Lib.hid (T3.out.later hb)
  have G4 := Lib.hid (below_on G3.out hb)
  have TD4 := Lib.hid (TD3.out.later hb)
  have TP4 := Lib.hid (TP.out.later hb)
  clear hb T3 G3 TD3 TP C3 c0 c1 c2 c3 c4 c5 c6 c7
  obtain ⟨⟨c0, c1, -⟩, ⟨c2, c3, -⟩, ⟨c4, c5, c6, c7, -⟩⟩ := T4.out
  obtain ⟨d0, d1, -⟩ := TD4.out
  obtain ⟨e0', e1', -⟩ := TP4.out
  go_wp2
  go_ret
  exact ⟨rfl, G4.out⟩
/-- two places are laid: the two boxes -/
theorem box_two (u : World) (x0 y0 x1 y1 : Int) : let v := ((u.alloc (.cells #[.int .i64 x0, .int .i64 y0, .int .i64 x1, .int .i64 y1] 25)).alloc (.cells #[.int .i64 x0, .int .i64 y0, .int .i64 x1, .int .i64 y1] 25)).drew
    Pl v u.heap.size x0 y0 x1 y1 ∧ Pl v (u.heap.size + 1) x0 y0 x1 y1 ∧ Below u.heap.size u v := by
  intro v
  have a1 := Pl.new u x0 y0 x1 y1 25
  have b1 := below_al u (.cells #[.int .i64 x0, .int .i64 y0, .int .i64 x1, .int .i64 y1] 25)
  have s1 : (u.alloc (.cells #[.int .i64 x0, .int .i64 y0, .int .i64 x1, .int .i64 y1] 25)).heap.size = u.heap.size + 1 := by simp
  have hv : v = ((u.alloc (.cells #[.int .i64 x0, .int .i64 y0, .int .i64 x1, .int .i64 y1] 25)).alloc (.cells #[.int .i64 x0, .int .i64 y0, .int .i64 x1, .int .i64 y1] 25)).drew := rfl
  rw [hv]
  clear hv v
  generalize u.alloc (.cells #[.int .i64 x0, .int .i64 y0, .int .i64 x1, .int .i64 y1] 25) = a at *
  have a2 := Pl.new a x0 y0 x1 y1 25
  have b2 := below_drew (below_al a (.cells #[.int .i64 x0, .int .i64 y0, .int .i64 x1, .int .i64 y1] 25))
  have b3 := below_drew (Below.refl (a.alloc (.cells #[.int .i64 x0, .int .i64 y0, .int .i64 x1, .int .i64 y1] 25)).heap.size (a.alloc (.cells #[.int .i64 x0, .int .i64 y0, .int .i64 x1, .int .i64 y1] 25)))
  rw [s1] at a2
  exact ⟨a1.later b2, a2.later b3, below_on b1 b2⟩
set_option maxRecDepth 100000 in
set_option maxHeartbeats 16000000 in
theorem edges_law (ax ay bx by_ x0 y0 x1 y1 m : Int) (w : World) (g1 : (Lit.int .i64 ax).wf = true) (g2 : (Lit.int .i64 ay).wf = true) (g3 : (Lit.int .i64 bx).wf = true) (g4 : (Lit.int .i64 by_).wf = true)
    (h1 : (Lit.int .i64 x0).wf = true) (h2 : (Lit.int .i64 y0).wf = true) (h3 : (Lit.int .i64 x1).wf = true) (h4 : (Lit.int .i64 y1).wf = true) (h5 : (Lit.int .i64 m).wf = true) :
    Calls Try.prog 3 #[.agg #[.int .i64 ax, .int .i64 ay], .agg #[.int .i64 bx, .int .i64 by_], .agg #[.int .i64 x0, .int .i64 y0, .int .i64 x1, .int .i64 y1], .int .i64 m] w fun e w' => e = .returned (.bool true) ∧ Below w.heap.size w w' := by
  have AW := Lib.hid awake09
  have MT := Lib.hid (fun u => rMeet_any ax ay bx by_ m y0 m y1 u)
  rw [rm_eq] at MT
  have I1 := Lib.hid (wf64 h1)
  have I2 := Lib.hid (wf64 h2)
  have I3 := Lib.hid (wf64 h3)
  have I4 := Lib.hid (wf64 h4)
  have I5 := Lib.hid (wf64 h5)
  have HM := Lib.hid (fun a b c d => edge_meets (ax := ax) (ay := ay) (bx := bx) (by_ := by_) (m := m) (y0 := y0) (y1 := y1) a b c d)
  clear g1 g2 g3 g4 h1 h2 h3 h4 h5
  generalize mtF ax ay bx by_ m y0 m y1 = t at *
  go_enter Try.func3, Try.ntmps3
  go_upto_region 1 with fail
  have H0 := Lib.hid (W3.new w ax ay bx by_ x0 y0 x1 y1)
  generalize ((w.alloc (.cells #[.int .i64 ax, .int .i64 ay] 23)).alloc (.cells #[.int .i64 bx, .int .i64 by_] 23)).alloc (.cells #[.int .i64 x0, .int .i64 y0, .int .i64 x1, .int .i64 y1] 25) = w0 at *
  obtain ⟨⟨c0, c1, -⟩, ⟨c2, c3, -⟩, ⟨c4, c5, c6, c7, -⟩⟩ := H0.out.1
  by_cases k1 : m ≤ ax
  · have d1 : decide (m ≤ ax) = true := by simpa using k1
    clear MT HM
    go_wp2_with fail
    refine (AW.out _).mono ?_
    rintro e u9 ⟨rfl, hb⟩
    have G9 := Lib.hid (below_on H0.out.2 hb)
    clear hb H0 AW
    go_wp2
    go_ret
    exact ⟨rfl, G9.out⟩
  have d1 : decide (m ≤ ax) = false := by simpa using k1
  by_cases k2 : bx ≤ m
  · have d2 : decide (bx ≤ m) = true := by simpa using k2
    clear MT HM
    go_wp2_with fail
    refine (AW.out _).mono ?_
    rintro e u9 ⟨rfl, hb⟩
    have G9 := Lib.hid (below_on H0.out.2 hb)
    clear hb H0 AW
    go_wp2
    go_ret
    exact ⟨rfl, G9.out⟩
  have d2 : decide (bx ≤ m) = false := by simpa using k2
  by_cases k3 : m < x0
  · have d3 : decide (m < x0) = true := by simpa using k3
    clear MT HM
    go_wp2_with fail
    refine (AW.out _).mono ?_
    rintro e u9 ⟨rfl, hb⟩
    have G9 := Lib.hid (below_on H0.out.2 hb)
    clear hb H0 AW
    go_wp2
    go_ret
    exact ⟨rfl, G9.out⟩
  have d3 : decide (m < x0) = false := by simpa using k3
  by_cases k4 : x1 < m
  · have d4 : decide (x1 < m) = true := by simpa using k4
    clear MT HM
    go_wp2_with fail
    refine (AW.out _).mono ?_
    rintro e u9 ⟨rfl, hb⟩
    have G9 := Lib.hid (below_on H0.out.2 hb)
    clear hb H0 AW
    go_wp2
    go_ret
    exact ⟨rfl, G9.out⟩
  have d4 : decide (x1 < m) = false := by simpa using k4
  by_cases k5 : y1 < y0
  · have d5 : decide (y1 < y0) = true := by simpa using k5
    clear MT HM
    go_wp2_with fail
    refine (AW.out _).mono ?_
    rintro e u9 ⟨rfl, hb⟩
    have G9 := Lib.hid (below_on H0.out.2 hb)
    clear hb H0 AW
    go_wp2
    go_ret
    exact ⟨rfl, G9.out⟩
  have d5 : decide (y1 < y0) = false := by simpa using k5
  go_wp2_with fail
  refine (MT.out _).mono ?_
  rintro e w1 ⟨rfl, hb⟩
  have K1 := Lib.hid (H0.out.1.later hb)
  have G1 := Lib.hid (below_on H0.out.2 hb)
  clear hb H0 MT c0 c1 c2 c3 c4 c5 c6 c7
  by_cases k6 : t = 0
  · subst k6
    clear HM K1
    go_wp2_with fail
    refine (AW.out _).mono ?_
    rintro e u9 ⟨rfl, hb⟩
    have G9 := Lib.hid (below_on G1.out hb)
    clear hb G1 AW
    go_wp2
    go_ret
    exact ⟨rfl, G9.out⟩
  have d6 : (t == 0) = false := by simpa using k6
  obtain ⟨hn, hy⟩ := HM.out (by omega) (by omega) (by omega) k6
  obtain ⟨z1, z2, z3⟩ := edge_west hn (show ax < m by omega) (show m < bx by omega) (show x0 ≤ m by omega) hy
  obtain ⟨z4, z5, z6⟩ := edge_east hn (show ax < m by omega) (show m < bx by omega) (show m ≤ x1 by omega) hy
  obtain ⟨z7, -⟩ := edge_at hn (show ax < m by omega) (show m < bx by omega)
  have CM := Lib.hid (fun u => meets_true ax ay bx by_ x0 y0 m y1 m y0 x1 y1 (atV ax ay bx by_ m) u z1 z2 z3 z4 z5 z6 z7 rfl I1.out I2.out I5.out I4.out I5.out I2.out I3.out I4.out)
  have T1 := Lib.hid (fun u => turn_any ax ay u)
  have T2 := Lib.hid (fun u => turn_any bx by_ u)
  have CW := Lib.hid (fun u => clip_nm ay ax by_ bx y0 x0 y1 m u I2.out I1.out I4.out I5.out)
  have CE := Lib.hid (fun u => clip_nm ay ax by_ bx y0 m y1 x1 u I2.out I5.out I4.out I3.out)
  obtain ⟨u1, u2, u3, u4, u5⟩ := cl_turn x0 y0 m y1 hn
  obtain ⟨v1, v2, v3, v4, v5⟩ := cl_turn m y0 x1 y1 hn
  rw [u1, u4, u5, z1, z2, z3] at CW
  rw [v1, v2, v3, z4, z5, z6] at CE
  clear z1 z2 z3 z4 z5 z6 z7 u1 u2 u3 u4 u5 v1 v2 v3 v4 v5 hn hy k1 k2 k3 k4 k5 k6 HM I1 I2 I3 I4 I5 d1 d2 d3 d4 d5
  generalize atV ax ay bx by_ m = V at *
  generalize clX ay ax by_ bx y0 x0 y1 m = p at *
  generalize clY ay ax by_ bx y0 x0 y1 m = q at *
  generalize clZ ay ax by_ bx y0 m y1 x1 = r at *
  generalize clW ay ax by_ bx y0 m y1 x1 = s at *
  go_upto_region 3 with fail
  go_cut [9, 10] from 63 to 64 (fun v v' wc => ∃ g g', v = .pointer (some ⟨g, 0, none⟩) ∧ v' = .pointer (some ⟨g', 0, none⟩) ∧ Hid (W3 wc w.heap.size ax ay bx by_ x0 y0 x1 y1) ∧ Hid (Pl wc g x0 y0 x1 y1) ∧ Hid (Pl wc g' x0 y0 x1 y1) ∧ Hid (Below w.heap.size w wc) ∧ Hid (w.heap.size + 1 + 1 + 1 ≤ g ∧ w.heap.size + 1 + 1 + 1 ≤ g' ∧ g ≠ g'))
  case first =>
    clear CM T1 T2 CW CE AW
    obtain ⟨-, -, ⟨c4, c5, c6, c7, -⟩⟩ := K1.out
    have lt := cell_lt c4
    have lt2 : w.heap.size + 1 + 1 < w1.heap.size + 1 := by omega
    have n1 : w.heap.size + 1 + 1 ≠ w1.heap.size := by omega
    have n2 : w.heap.size + 1 + 1 ≠ w1.heap.size + 1 := by omega
    have n3 := Ne.symm n1
    have n4 := Ne.symm n2
    have M1 := Lib.hid (box_two w1 x0 y0 x1 y1)
    have K2 := Lib.hid (K1.out.later M1.out.2.2)
    have G2 := Lib.hid (below_on G1.out M1.out.2.2)
    have D1 := Lib.hid (show w.heap.size + 1 + 1 + 1 ≤ w1.heap.size ∧ w.heap.size + 1 + 1 + 1 ≤ w1.heap.size + 1 ∧ w1.heap.size ≠ w1.heap.size + 1 by omega)
    have D2 := Lib.hid (show w.heap.size + 1 + 1 + 1 ≤ w1.heap.size + 1 ∧ w.heap.size + 1 + 1 + 1 ≤ w1.heap.size ∧ w1.heap.size + 1 ≠ w1.heap.size by omega)
    clear K1 G1
    go_region
    all_goals
      go_wp2
      go_meet
      first
        | exact ⟨_, _, rfl, rfl, K2, Lib.hid M1.out.1, Lib.hid M1.out.2.1, G2, D1⟩
        | exact ⟨_, _, rfl, rfl, K2, Lib.hid M1.out.2.1, Lib.hid M1.out.1, G2, D2⟩
  case rest =>
  clear K1 G1
  obtain ⟨g, g', rfl, rfl, K2, P1, P2, G2, D⟩ := hcut
  have e1 : g ≠ g' := D.out.2.2
  have e2 := Ne.symm e1
  have PG := Lib.hid ((P1.out.set2 m).other e1 (c := g') (o := 0) (.int .i64 m))
  have PG' := Lib.hid ((P2.out.other e2 (c := g) (o := 2) (.int .i64 m)).set0 m)
  have K3 : Hid (W3 ((wc.setCell ⟨g, 2, none⟩ (.int .i64 m)).setCell ⟨g', 0, none⟩ (.int .i64 m)) w.heap.size ax ay bx by_ x0 y0 x1 y1) := by
    obtain ⟨d1, d2, d3⟩ := D.out
    exact Lib.hid ⟨(K2.out.1.other (by omega) _).other (by omega) _, (K2.out.2.1.other (by omega) _).other (by omega) _, (K2.out.2.2.other (by omega) _).other (by omega) _⟩
  have G3 : Hid (Below w.heap.size w ((wc.setCell ⟨g, 2, none⟩ (.int .i64 m)).setCell ⟨g', 0, none⟩ (.int .i64 m))) := by
    obtain ⟨d1, d2, d3⟩ := D.out
    exact Lib.hid ((G2.out.setCell (p := ⟨g, 2, none⟩) (by show w.heap.size ≤ g; omega) _).setCell (p := ⟨g', 0, none⟩) (by show w.heap.size ≤ g'; omega) _)
  obtain ⟨a0, a1, a2, a3, ya⟩ := P1.out
  obtain ⟨b0, b1, b2, b3, yb⟩ := P2.out
  clear P1 P2 K2 G2 D
  go_upto_region 5 with fail
  generalize (wc.setCell ⟨g, 2, none⟩ (.int .i64 m)).setCell ⟨g', 0, none⟩ (.int .i64 m) = v3 at *
  clear a0 a1 a2 a3 ya b0 b1 b2 b3 yb
  obtain ⟨⟨c0, c1, -⟩, ⟨c2, c3, -⟩, -⟩ := K3.out
  obtain ⟨a0, a1, a2, a3, -⟩ := PG.out
  obtain ⟨b0, b1, b2, b3, -⟩ := PG'.out
  go_wp2_with fail
  refine (CM.out _).mono ?_
  rintro e w4 ⟨rfl, hb⟩
  have K4 := Lib.hid (K3.out.later hb)
  have G4 := Lib.hid (below_on G3.out hb)
  have PA := Lib.hid (PG.out.later hb)
  have PB := Lib.hid (PG'.out.later hb)
  clear hb K3 G3 PG PG' CM c0 c1 c2 c3 a0 a1 a2 a3 b0 b1 b2 b3
  obtain ⟨⟨c0, c1, -⟩, ⟨c2, c3, -⟩, -⟩ := K4.out
  go_wp2_with fail
  refine region_free (P := Try.prog) 4 6 129 23 (.cells #[.int .i64 0, .int .i64 0] 23) (by kernel_rfl) (by decide) (by kernel_rfl) ?_ (by kernel_rfl) (by kernel_rfl) alloc_pt ?_
  · rfl
  apply Exists.intro
  refine ⟨?hqA, ?hfA⟩
  case hqA =>
    intro X' hne
    haveI := hne
    simp only [List.take_succ_cons, List.take_zero]
    have L0 := fun m' : LaterX w4 X' => m'.cell c0
    have L1 := fun m' : LaterX w4 X' => m'.cell c1
    have L2 := fun m' : LaterX w4 X' => m'.cell c2
    have L3 := fun m' : LaterX w4 X' => m'.cell c3
    (go_big_quiet_want; go_big_quiet_op; go_big_quiet_on)
    (go_big_quiet_want; go_big_quiet_op; go_big_quiet_call (exact laterX_of (T1.out _)))
    (go_big_quiet_want; go_big_quiet_op; go_big_quiet_on)
    (go_big_quiet_want; go_big_quiet_op; go_big_quiet_call (exact laterX_of (T2.out _)))
    exact wpQuiet_nil rfl
  intro G w8 hb hG hd
  simp only [List.take_succ_cons, List.take_zero, List.drop_succ_cons, List.drop_zero, ptrs, putsL]
  obtain ⟨p1, p2, p3⟩ := hG 4 (by decide) (by decide)
  obtain ⟨t1, t2, t3⟩ := hG 5 (by decide) (by decide)
  have hgg := hd 4 5 (by decide) (by decide) (by decide) (by decide) (by decide)
  generalize G 4 = h at *
  generalize G 5 = h' at *
  have TW := Lib.hid (two_bx hb p1 t1 hgg (bx_of p3) (bx_of t3) ay ax by_ bx)
  obtain ⟨m0, m1, ym⟩ := bx_of p3
  obtain ⟨n0, n1, yn⟩ := bx_of t3
  have hgn := Ne.symm hgg
  clear hG hd hb p1 t1 p2 p3 t2 t3 c0 c1 c2 c3 T1 T2 K4
  go_upto_region 8 with fail
  obtain ⟨TC, TD, TB⟩ := TW.out
  have HC := Lib.hid TC
  have HD := Lib.hid TD
  have G5 := Lib.hid (below_on G4.out TB)
  have PA2 := Lib.hid (PA.out.later TB)
  have PB2 := Lib.hid (PB.out.later TB)
  clear TW TC TD TB m0 m1 ym n0 n1 yn hgn hgg PA PB G4
  generalize hu : (((w8.setCell ⟨h, 0, none⟩ (.int .i64 ay)).setCell ⟨h, 1, none⟩ (.int .i64 ax)).setCell ⟨h', 0, none⟩ (.int .i64 by_)).setCell ⟨h', 1, none⟩ (.int .i64 bx) = u at *
  clear hu
  obtain ⟨a0, a1, a2, a3, -⟩ := PA2.out
  obtain ⟨c0, c1, -⟩ := HC.out
  obtain ⟨c2, c3, -⟩ := HD.out
  go_wp2_with fail
  refine (CW.out _).mono ?_
  rintro e w5 ⟨rfl, hb⟩
  obtain ⟨tc, td, tb⟩ := two_new w5 p q V m
  have hq := below_on hb tb
  have HC2 := Lib.hid (HC.out.later hq)
  have HD2 := Lib.hid (HD.out.later hq)
  have PB3 := Lib.hid (PB2.out.later hq)
  have G6 := Lib.hid (below_on G5.out hq)
  have TD := Lib.hid td
  clear hb tc td tb hq HC HD PA2 PB2 G5 CW a0 a1 a2 a3 c0 c1 c2 c3
  go_upto_region 9 with fail
  generalize (w5.alloc (.cells #[.int .i64 p, .int .i64 q] 23)).alloc (.cells #[.int .i64 V, .int .i64 m] 23) = v5 at *
  generalize w5.heap.size = n13 at *
  obtain ⟨b0, b1, b2, b3, -⟩ := PB3.out
  obtain ⟨c0, c1, -⟩ := HC2.out
  obtain ⟨c2, c3, -⟩ := HD2.out
  go_wp2_with fail
  refine (CE.out _).mono ?_
  rintro e w6 ⟨rfl, hb⟩
  obtain ⟨tc, td, tb⟩ := two_new w6 V m r s
  have hq := below_on hb tb
  have TD2 := Lib.hid (TD.out.later hq)
  have G7 := Lib.hid (below_on G6.out hq)
  have TC := Lib.hid tc
  clear hb tc td tb hq HC2 HD2 PB3 G6 CE b0 b1 b2 b3 c0 c1 c2 c3 TD
  go_upto_region 10 with fail
  generalize (w6.alloc (.cells #[.int .i64 V, .int .i64 m] 23)).alloc (.cells #[.int .i64 r, .int .i64 s] 23) = v6 at *
  generalize w6.heap.size = n16 at *
  obtain ⟨c0, c1, -⟩ := TC.out
  obtain ⟨c2, c3, -⟩ := TD2.out
  clear TC TD2
  go_wp2_with fail
  refine (AW.out _).mono ?_
  rintro e u9 ⟨rfl, hb⟩
  have G9 := Lib.hid (below_on G7.out hb)
  clear hb G7 AW c0 c1 c2 c3
  go_wp2
  go_ret
  exact ⟨rfl, G9.out⟩
end Go.Proofs.Ytpdiojndfckmfaa
