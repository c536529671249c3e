/- CutWithin returns true for all segments and boxes: the walk. (printed by mkwithin.py) -/
import Derived.Test.YtpdiojndfckmfaaCutM
import Derived.Test.YtpdiojndfckmfaaCutAt
import Derived.Test.YtpdiojndfckmfaaCutPlainE
namespace Go.Proofs.Ytpdiojndfckmfaa
open Go.RowKit
open Num Geo Cut
set_option linter.unusedVariables false
/-- two points and a box in their blocks -/
def W3 (v : World) (n : Nat) (ax ay bx by_ x0 y0 x1 y1 : Int) : Prop := Bx v n ax ay ∧ Bx v (n + 1) bx by_ ∧ Pl v (n + 1 + 1) x0 y0 x1 y1
theorem W3.later {v u : World} {n : Nat} {ax ay bx by_ x0 y0 x1 y1 : Int} (h : W3 v n ax ay bx by_ x0 y0 x1 y1) (hb : Below v.heap.size v u) : W3 u n ax ay bx by_ x0 y0 x1 y1 := ⟨h.1.later hb, h.2.1.later hb, h.2.2.later hb⟩
theorem W3.new (w : World) (ax ay bx by_ x0 y0 x1 y1 : Int) : W3 (((w.alloc (.cells #[.int .i64 ax, .int .i64 ay] 23)).alloc (.cells #[.int .i64 bx, .int .i64 by_] 23)).alloc (.cells #[.int .i64 x0, .int .i64 y0, .int .i64 x1, .int .i64 y1] 25)) w.heap.size ax ay bx by_ x0 y0 x1 y1 ∧
    Below w.heap.size w (((w.alloc (.cells #[.int .i64 ax, .int .i64 ay] 23)).alloc (.cells #[.int .i64 bx, .int .i64 by_] 23)).alloc (.cells #[.int .i64 x0, .int .i64 y0, .int .i64 x1, .int .i64 y1] 25)) := by
  have s1 : (w.alloc (.cells #[.int .i64 ax, .int .i64 ay] 23)).heap.size = w.heap.size + 1 := by simp
  have a1 := Bx.new w ax ay 23
  have b1 := below_al w (.cells #[.int .i64 ax, .int .i64 ay] 23)
  generalize w.alloc (.cells #[.int .i64 ax, .int .i64 ay] 23) = v1 at *
  have s2 : (v1.alloc (.cells #[.int .i64 bx, .int .i64 by_] 23)).heap.size = w.heap.size + 1 + 1 := by simp [s1]
  have a2 := Bx.new v1 bx by_ 23
  have b2 := below_al v1 (.cells #[.int .i64 bx, .int .i64 by_] 23)
  generalize v1.alloc (.cells #[.int .i64 bx, .int .i64 by_] 23) = v2 at *
  have a3 := Pl.new v2 x0 y0 x1 y1 25
  have b3 := below_al v2 (.cells #[.int .i64 x0, .int .i64 y0, .int .i64 x1, .int .i64 y1] 25)
  rw [s2] at a3
  rw [s1] at a2
  exact ⟨⟨(a1.later b2).later b3, a2.later b3, a3⟩, below_on (below_on b1 b2) b3⟩
theorem two_new (u : World) (cx cy dx dy : Int) : Bx ((u.alloc (.cells #[.int .i64 cx, .int .i64 cy] 23)).alloc (.cells #[.int .i64 dx, .int .i64 dy] 23)) u.heap.size cx cy ∧ Bx ((u.alloc (.cells #[.int .i64 cx, .int .i64 cy] 23)).alloc (.cells #[.int .i64 dx, .int .i64 dy] 23)) (u.heap.size + 1) dx dy ∧
    Below u.heap.size u ((u.alloc (.cells #[.int .i64 cx, .int .i64 cy] 23)).alloc (.cells #[.int .i64 dx, .int .i64 dy] 23)) := by
  have s1 : (u.alloc (.cells #[.int .i64 cx, .int .i64 cy] 23)).heap.size = u.heap.size + 1 := by simp
  have a1 := Bx.new u cx cy 23
  have b1 := below_al u (.cells #[.int .i64 cx, .int .i64 cy] 23)
  generalize u.alloc (.cells #[.int .i64 cx, .int .i64 cy] 23) = v1 at *
  have a2 := Bx.new v1 dx dy 23
  have b2 := below_al v1 (.cells #[.int .i64 dx, .int .i64 dy] 23)
  rw [s1] at a2
  exact ⟨a1.later b2, a2, below_on b1 b2⟩
/-- Clip by the names of what it gives -/
theorem clip_nm (ax ay bx by_ x0 y0 x1 y1 : Int) (w : World) (h1 : I64 x0) (h2 : I64 y0) (h3 : I64 x1) (h4 : I64 y1) :
    Calls Try.prog 12 #[.agg #[.int .i64 ax, .int .i64 ay], .agg #[.int .i64 bx, .int .i64 by_], .agg #[.int .i64 x0, .int .i64 y0, .int .i64 x1, .int .i64 y1]] w
      fun e w' => e = .returned (.tuple #[.agg #[.int .i64 (clX ax ay bx by_ x0 y0 x1 y1), .int .i64 (clY ax ay bx by_ x0 y0 x1 y1)], .agg #[.int .i64 (clZ ax ay bx by_ x0 y0 x1 y1), .int .i64 (clW ax ay bx by_ x0 y0 x1 y1)], .bool (clO ax ay bx by_ x0 y0 x1 y1)]) ∧ Below w.heap.size w w' :=
  Clip_any ax ay bx by_ x0 y0 x1 y1 w h1 h2 h3 h4
set_option maxRecDepth 100000 in
set_option maxHeartbeats 16000000 in
theorem within_law (ax ay bx by_ x0 y0 x1 y1 : Int) (w : World) (g1 : (Lit.int .i64 ax).wf = true) (g2 : (Lit.int .i64 ay).wf = true) (g3 : (Lit.int .i64 bx).wf = true) (g4 : (Lit.int .i64 by_).wf = true)
    (h1 : (Lit.int .i64 x0).wf = true) (h2 : (Lit.int .i64 y0).wf = true) (h3 : (Lit.int .i64 x1).wf = true) (h4 : (Lit.int .i64 y1).wf = true) :
    Calls Try.prog 7 #[.agg #[.int .i64 ax, .int .i64 ay], .agg #[.int .i64 bx, .int .i64 by_], .agg #[.int .i64 x0, .int .i64 y0, .int .i64 x1, .int .i64 y1]] w fun e w' => e = .returned (.bool true) ∧ Below w.heap.size w w' := by
  have C1 := Lib.hid (fun u => clip_nm ax ay bx by_ x0 y0 x1 y1 u (wf64 h1) (wf64 h2) (wf64 h3) (wf64 h4))
  have C2 := Lib.hid (fun u => clip_nm bx by_ ax ay x0 y0 x1 y1 u (wf64 h1) (wf64 h2) (wf64 h3) (wf64 h4))
  obtain ⟨k1, k2, k3, k4, k5⟩ := cl_back ax ay bx by_ x0 y0 x1 y1
  rw [k1, k2, k3, k4, k5] at C2
  clear k1 k2 k3 k4 k5 g1 g2 g3 g4 h1 h2 h3 h4
  have IC := Lib.hid (fun u => rIn_any x0 y0 x1 y1 (clX ax ay bx by_ x0 y0 x1 y1) (clY ax ay bx by_ x0 y0 x1 y1) u)
  have ID := Lib.hid (fun u => rIn_any x0 y0 x1 y1 (clZ ax ay bx by_ x0 y0 x1 y1) (clW ax ay bx by_ x0 y0 x1 y1) u)
  have IA := Lib.hid (fun u => rIn_any x0 y0 x1 y1 ax ay u)
  have IB := Lib.hid (fun u => rIn_any x0 y0 x1 y1 bx by_ u)
  have HI := Lib.hid (fun h => cl_in (ax := ax) (ay := ay) (bx := bx) (by_ := by_) (x0 := x0) (y0 := y0) (x1 := x1) (y1 := y1) h)
  have HW := Lib.hid (fun hn h1 h2 => cl_whole (ax := ax) (ay := ay) (bx := bx) (by_ := by_) (x0 := x0) (y0 := y0) (x1 := x1) (y1 := y1) hn h1 h2)
  have NR := Lib.hid (fun u => (rnear_any [(ax, ay), (bx, by_)] _ 2 _ (by simp) (lit_pts u [(ax, ay), (bx, by_)] #[.int .i64 ax, .int .i64 ay, .int .i64 bx, .int .i64 by_] rfl)))
  have AW := Lib.hid awake09
  generalize clO ax ay bx by_ x0 y0 x1 y1 = o at *
  generalize clX ax ay bx by_ x0 y0 x1 y1 = cx at *
  generalize clY ax ay bx by_ x0 y0 x1 y1 = cy at *
  generalize clZ ax ay bx by_ x0 y0 x1 y1 = dx at *
  generalize clW ax ay bx by_ x0 y0 x1 y1 = dy at *
  generalize nearL [(ax, ay), (bx, by_)] = nr at *
  generalize inB x0 y0 x1 y1 ax ay = ia at *
  generalize inB x0 y0 x1 y1 bx by_ = ib at *
  generalize inB x0 y0 x1 y1 cx cy = ic at *
  generalize inB x0 y0 x1 y1 dx dy = id' at *
  go_enter Try.func7, Try.ntmps7
  go_wp2_with fail
  have H0 := Lib.hid (W3.new w ax ay bx by_ x0 y0 x1 y1)
  generalize ((w.alloc (.cells #[.int .i64 ax, .int .i64 ay] 23)).alloc (.cells #[.int .i64 bx, .int .i64 by_] 23)).alloc (.cells #[.int .i64 x0, .int .i64 y0, .int .i64 x1, .int .i64 y1] 25) = w0 at *
  refine (C1.out _).mono ?_
  rintro e w1 ⟨rfl, hb⟩
  obtain ⟨tc, td, tb⟩ := two_new w1 cx cy dx dy
  have K1 := Lib.hid (H0.out.1.later (below_on hb tb))
  have G1 := Lib.hid (below_on H0.out.2 (below_on hb tb))
  have TC := Lib.hid tc
  have TD := Lib.hid td
  clear hb tc td tb H0 C1
  go_upto_region 2 with fail
  generalize (w1.alloc (.cells #[.int .i64 cx, .int .i64 cy] 23)).alloc (.cells #[.int .i64 dx, .int .i64 dy] 23) = v1 at *
  generalize w1.heap.size = n7 at *
  obtain ⟨⟨c0, c1, -⟩, ⟨c2, c3, -⟩, ⟨c4, c5, c6, c7, -⟩⟩ := K1.out
  go_wp2_with fail
  refine (C2.out _).mono ?_
  rintro e w2 ⟨rfl, hb⟩
  obtain ⟨tp, tq, tb⟩ := two_new w2 dx dy cx cy
  have K2 := Lib.hid (K1.out.later (below_on hb tb))
  have G2 := Lib.hid (below_on G1.out (below_on hb tb))
  have TC2 := Lib.hid (TC.out.later (below_on hb tb))
  have TD2 := Lib.hid (TD.out.later (below_on hb tb))
  have TP := Lib.hid tp
  have TQ := Lib.hid tq
  clear hb tp tq tb K1 G1 TC TD C2 c0 c1 c2 c3 c4 c5 c6 c7
  go_upto_region 3 with fail
  generalize (w2.alloc (.cells #[.int .i64 dx, .int .i64 dy] 23)).alloc (.cells #[.int .i64 cx, .int .i64 cy] 23) = v2 at *
  generalize w2.heap.size = n10 at *
  have M0 : Hid (W3 v2 w.heap.size ax ay bx by_ x0 y0 x1 y1 ∧ Bx v2 n7 cx cy ∧ Bx v2 (n7 + 1) dx dy) := Lib.hid ⟨K2.out, TC2.out, TD2.out⟩
  have ML : Hid (∀ v u, (W3 v w.heap.size ax ay bx by_ x0 y0 x1 y1 ∧ Bx v n7 cx cy ∧ Bx v (n7 + 1) dx dy) → Below v.heap.size v u → (W3 u w.heap.size ax ay bx by_ x0 y0 x1 y1 ∧ Bx u n7 cx cy ∧ Bx u (n7 + 1) dx dy)) := Lib.hid (fun v u h hb => ⟨h.1.later hb, h.2.1.later hb, h.2.2.later hb⟩)
  clear K2 TC2 TD2
  obtain ⟨p0, p1, -⟩ := TP.out
  obtain ⟨q0, q1, -⟩ := TQ.out
  clear TP TQ
  obtain ⟨⟨⟨c0, c1, -⟩, ⟨c2, c3, -⟩, ⟨c4, c5, c6, c7, -⟩⟩, ⟨c8, c9, -⟩, ⟨c10, c11, -⟩⟩ := M0.out
  cases o
  · go_upto_region 7 with fail
    clear p0 p1 q0 q1 IC ID HI
    have NRu := Lib.hid (NR.out v2)
    have bA := Lib.hid (below_al v2 (.cells #[.int .i64 ax, .int .i64 ay, .int .i64 bx, .int .i64 by_] 23))
    clear NR
    go_wp2_with fail
    refine NRu.out.mono ?_
    rintro e u5 ⟨rfl, hb⟩
    have M5 := Lib.hid (ML.out _ _ M0.out (below_on bA.out hb))
    have G5 := Lib.hid (below_on G2.out (below_on bA.out hb))
    clear hb bA NRu M0 G2
    clear c0 c1 c2 c3 c4 c5 c6 c7 c8 c9 c10 c11
    obtain ⟨⟨⟨c0, c1, -⟩, ⟨c2, c3, -⟩, ⟨c4, c5, c6, c7, -⟩⟩, ⟨c8, c9, -⟩, ⟨c10, c11, -⟩⟩ := M5.out
    cases nr
    · clear HW IA IB ML
      go_wp2_with fail
      refine (AW.out _).mono ?_
      rintro e u9 ⟨rfl, hb⟩
      have G9 := Lib.hid (below_on G5.out hb)
      clear hb G5 AW
      go_wp2
      go_ret
      exact ⟨rfl, G9.out⟩
    · go_wp2_with fail
      refine (IA.out _).mono ?_
      rintro e u6 ⟨rfl, hb⟩
      have M6 := Lib.hid (ML.out _ _ M5.out hb)
      have G6 := Lib.hid (below_on G5.out hb)
      clear hb M5 G5
      clear c0 c1 c2 c3 c4 c5 c6 c7 c8 c9 c10 c11
      obtain ⟨⟨⟨c0, c1, -⟩, ⟨c2, c3, -⟩, ⟨c4, c5, c6, c7, -⟩⟩, ⟨c8, c9, -⟩, ⟨c10, c11, -⟩⟩ := M6.out
      cases ia
      · clear HW IA IB ML
        go_wp2_with fail
        refine (AW.out _).mono ?_
        rintro e u9 ⟨rfl, hb⟩
        have G9 := Lib.hid (below_on G6.out hb)
        clear hb G6 AW
        go_wp2
        go_ret
        exact ⟨rfl, G9.out⟩
      · go_wp2_with fail
        refine (IB.out _).mono ?_
        rintro e u7 ⟨rfl, hb⟩
        have M7 := Lib.hid (ML.out _ _ M6.out hb)
        have G7 := Lib.hid (below_on G6.out hb)
        clear hb M6 G6
        clear c0 c1 c2 c3 c4 c5 c6 c7 c8 c9 c10 c11
        obtain ⟨⟨⟨c0, c1, -⟩, ⟨c2, c3, -⟩, ⟨c4, c5, c6, c7, -⟩⟩, ⟨c8, c9, -⟩, ⟨c10, c11, -⟩⟩ := M7.out
        cases ib
        · clear HW IA IB ML
          go_wp2_with fail
          refine (AW.out _).mono ?_
          rintro e u9 ⟨rfl, hb⟩
          have G9 := Lib.hid (below_on G7.out hb)
          clear hb G7 AW
          go_wp2
          go_ret
          exact ⟨rfl, G9.out⟩
        · exact absurd HW.out (by simp)
  · obtain ⟨z1, z2⟩ := HI.out rfl
    rw [z1] at IC
    rw [z2] at ID
    clear z1 z2 HI
    go_wp2_with fail
    refine (IC.out _).mono ?_
    rintro e u3 ⟨rfl, hb⟩
    have M3 := Lib.hid (ML.out _ _ M0.out hb)
    have G3 := Lib.hid (below_on G2.out hb)
    clear hb M0 G2 IC p0 p1 q0 q1
    clear c0 c1 c2 c3 c4 c5 c6 c7 c8 c9 c10 c11
    obtain ⟨⟨⟨c0, c1, -⟩, ⟨c2, c3, -⟩, ⟨c4, c5, c6, c7, -⟩⟩, ⟨c8, c9, -⟩, ⟨c10, c11, -⟩⟩ := M3.out
    go_wp2_with fail
    refine (ID.out _).mono ?_
    rintro e u4 ⟨rfl, hb⟩
    have M4 := Lib.hid (ML.out _ _ M3.out hb)
    have G4 := Lib.hid (below_on G3.out hb)
    clear hb M3 G3 ID
    clear c0 c1 c2 c3 c4 c5 c6 c7 c8 c9 c10 c11
    obtain ⟨⟨⟨c0, c1, -⟩, ⟨c2, c3, -⟩, ⟨c4, c5, c6, c7, -⟩⟩, ⟨c8, c9, -⟩, ⟨c10, c11, -⟩⟩ := M4.out
    go_upto_region 7 with fail
    have NRu := Lib.hid (NR.out u4)
    have bA := Lib.hid (below_al u4 (.cells #[.int .i64 ax, .int .i64 ay, .int .i64 bx, .int .i64 by_] 23))
    clear NR
    go_wp2_with fail
    refine NRu.out.mono ?_
    rintro e u5 ⟨rfl, hb⟩
    have M5 := Lib.hid (ML.out _ _ M4.out (below_on bA.out hb))
    have G5 := Lib.hid (below_on G4.out (below_on bA.out hb))
    clear hb bA NRu M4 G4
    clear c0 c1 c2 c3 c4 c5 c6 c7 c8 c9 c10 c11
    obtain ⟨⟨⟨c0, c1, -⟩, ⟨c2, c3, -⟩, ⟨c4, c5, c6, c7, -⟩⟩, ⟨c8, c9, -⟩, ⟨c10, c11, -⟩⟩ := M5.out
    cases nr
    · clear HW IA IB ML
      go_wp2_with fail
      refine (AW.out _).mono ?_
      rintro e u9 ⟨rfl, hb⟩
      have G9 := Lib.hid (below_on G5.out hb)
      clear hb G5 AW
      go_wp2
      go_ret
      exact ⟨rfl, G9.out⟩
    · go_wp2_with fail
      refine (IA.out _).mono ?_
      rintro e u6 ⟨rfl, hb⟩
      have M6 := Lib.hid (ML.out _ _ M5.out hb)
      have G6 := Lib.hid (below_on G5.out hb)
      clear hb M5 G5
      clear c0 c1 c2 c3 c4 c5 c6 c7 c8 c9 c10 c11
      obtain ⟨⟨⟨c0, c1, -⟩, ⟨c2, c3, -⟩, ⟨c4, c5, c6, c7, -⟩⟩, ⟨c8, c9, -⟩, ⟨c10, c11, -⟩⟩ := M6.out
      cases ia
      · clear HW IA IB ML
        go_wp2_with fail
        refine (AW.out _).mono ?_
        rintro e u9 ⟨rfl, hb⟩
        have G9 := Lib.hid (below_on G6.out hb)
        clear hb G6 AW
        go_wp2
        go_ret
        exact ⟨rfl, G9.out⟩
      · go_wp2_with fail
        refine (IB.out _).mono ?_
        rintro e u7 ⟨rfl, hb⟩
        have M7 := Lib.hid (ML.out _ _ M6.out hb)
        have G7 := Lib.hid (below_on G6.out hb)
        clear hb M6 G6
        clear c0 c1 c2 c3 c4 c5 c6 c7 c8 c9 c10 c11
        obtain ⟨⟨⟨c0, c1, -⟩, ⟨c2, c3, -⟩, ⟨c4, c5, c6, c7, -⟩⟩, ⟨c8, c9, -⟩, ⟨c10, c11, -⟩⟩ := M7.out
        cases ib
        · clear HW IA IB ML
          go_wp2_with fail
          refine (AW.out _).mono ?_
          rintro e u9 ⟨rfl, hb⟩
          have G9 := Lib.hid (below_on G7.out hb)
          clear hb G7 AW
          go_wp2
          go_ret
          exact ⟨rfl, G9.out⟩
        · have hw : cx = ax ∧ cy = ay ∧ dx = bx ∧ dy = by_ := by simpa using HW.out
          obtain ⟨z1, z2, z3, z4⟩ := hw
          subst z1
          subst z2
          subst z3
          subst z4
          clear HW IA IB ML
          go_wp2_with fail
          refine (AW.out _).mono ?_
          rintro e u9 ⟨rfl, hb⟩
          have G9 := Lib.hid (below_on G7.out hb)
          clear hb G7 AW
          go_wp2
          go_ret
          exact ⟨rfl, G9.out⟩
end Go.Proofs.Ytpdiojndfckmfaa
