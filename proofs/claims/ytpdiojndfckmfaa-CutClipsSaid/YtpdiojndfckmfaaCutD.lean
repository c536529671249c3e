/- The memory of Cross; the contract of the reference's Cross. (printed by mkcross.py) -/
import Derived.Test.YtpdiojndfckmfaaCutC
import Derived.Test.YtpdiojndfckmfaaCutPlainC
import Derived.Test.YtpdiojndfckmfaaGeoR
import Derived.Test.YtpdiojndfckmfaaFree
namespace Go.Proofs.Ytpdiojndfckmfaa
open Go.RowKit
open Num Geo Cut
set_option linter.unusedVariables false
/-- four points and the box of the result -/
def HasX (w v : World) (ax ay bx by_ cx cy dx dy : Int) : Prop := Has4 w v ax ay bx by_ cx cy dx dy ∧ Bx v (w.heap.size + 1 + 1 + 1 + 1) 0 0
theorem HasX.later {w v u : World} {ax ay bx by_ cx cy dx dy : Int} (h : HasX w v ax ay bx by_ cx cy dx dy) (hb : Below v.heap.size v u) : HasX w u ax ay bx by_ cx cy dx dy := ⟨h.1.later hb, h.2.later hb⟩
def D4 (w : World) (ax ay bx by_ cx cy dx dy : Int) : World := ((((w.alloc (.cells #[.int .i64 ax, .int .i64 ay] 23)).alloc (.cells #[.int .i64 bx, .int .i64 by_] 23)).alloc (.cells #[.int .i64 cx, .int .i64 cy] 23)).alloc (.cells #[.int .i64 dx, .int .i64 dy] 23)).alloc (.cells #[.int .i64 0, .int .i64 0] 23)
def E4 (w : World) (ax ay bx by_ cx cy dx dy : Int) : World := (D4 w ax ay bx by_ cx cy dx dy).alloc (.cells #[.int .i64 ax, .int .i64 ay, .int .i64 bx, .int .i64 by_, .int .i64 cx, .int .i64 cy, .int .i64 dx, .int .i64 dy] 23)
theorem D4_size (w : World) (ax ay bx by_ cx cy dx dy : Int) : (D4 w ax ay bx by_ cx cy dx dy).heap.size = w.heap.size + 1 + 1 + 1 + 1 + 1 := by unfold D4; simp
theorem D4_has (w : World) (ax ay bx by_ cx cy dx dy : Int) : HasX w (D4 w ax ay bx by_ cx cy dx dy) ax ay bx by_ cx cy dx dy := by
  refine ⟨(B4_has w ax ay bx by_ cx cy dx dy).later (below_al _ _), ?_⟩
  rw [← B4_size w ax ay bx by_ cx cy dx dy]
  exact Bx.new (B4 w ax ay bx by_ cx cy dx dy) 0 0 _
theorem E4_pts (w : World) (ax ay bx by_ cx cy dx dy : Int) : Pts (E4 w ax ay bx by_ cx cy dx dy) (E4 w ax ay bx by_ cx cy dx dy).heap.size (some ⟨w.heap.size + 1 + 1 + 1 + 1 + 1, 0, none⟩) [(ax, ay), (bx, by_), (cx, cy), (dx, dy)] := fun _ => by
  refine ⟨_, _, rfl, ?_, ?_⟩
  · unfold E4; rw [← D4_size w ax ay bx by_ cx cy dx dy]; simp
  · intro j hj
    unfold E4
    rw [← D4_size w ax ay bx by_ cx cy dx dy]
    match j, hj with
    | 0, _ => exact ⟨by simp, by simp⟩
    | 1, _ => exact ⟨by simp, by simp⟩
    | 2, _ => exact ⟨by simp, by simp⟩
    | 3, _ => exact ⟨by simp, by simp⟩
theorem accX (w : World) (ax ay bx by_ cx cy dx dy : Int) : Calls Try.prog 26 #[.slice (some ⟨w.heap.size + 1 + 1 + 1 + 1 + 1, 0, none⟩) 4 4] (E4 w ax ay bx by_ cx cy dx dy) fun e w' => e = .returned (.bool (nearL [(ax, ay), (bx, by_), (cx, cy), (dx, dy)])) ∧ HasX w w' ax ay bx by_ cx cy dx dy :=
  (acc_any [(ax, ay), (bx, by_), (cx, cy), (dx, dy)] _ 4 _ (by simp) (E4_pts w ax ay bx by_ cx cy dx dy)).mono fun e w' ⟨h1, h2⟩ => ⟨h1, ((D4_has w ax ay bx by_ cx cy dx dy).later (below_al _ _)).later h2⟩
theorem rnearX (w : World) (ax ay bx by_ cx cy dx dy : Int) : Calls Try.prog 21 #[.slice (some ⟨w.heap.size + 1 + 1 + 1 + 1 + 1, 0, none⟩) 4 4] (E4 w ax ay bx by_ cx cy dx dy) fun e w' => e = .returned (.bool (nearL [(ax, ay), (bx, by_), (cx, cy), (dx, dy)])) ∧ HasX w w' ax ay bx by_ cx cy dx dy :=
  (rnear_any [(ax, ay), (bx, by_), (cx, cy), (dx, dy)] _ 4 _ (by simp) (E4_pts w ax ay bx by_ cx cy dx dy)).mono fun e w' ⟨h1, h2⟩ => ⟨h1, ((D4_has w ax ay bx by_ cx cy dx dy).later (below_al _ _)).later h2⟩
/-- the result in its box -/
theorem cross_end {w u : World} {ax ay bx by_ cx cy dx dy : Int} (h : HasX w u ax ay bx by_ cx cy dx dy) (x y : Int) :
    Bx ((u.setCell ⟨w.heap.size + 1 + 1 + 1 + 1, 0, none⟩ (.int .i64 x)).setCell ⟨w.heap.size + 1 + 1 + 1 + 1, 1, none⟩ (.int .i64 y)) (w.heap.size + 1 + 1 + 1 + 1) x y ∧
    Below w.heap.size w ((u.setCell ⟨w.heap.size + 1 + 1 + 1 + 1, 0, none⟩ (.int .i64 x)).setCell ⟨w.heap.size + 1 + 1 + 1 + 1, 1, none⟩ (.int .i64 y)) := by
  have l3 : w.heap.size ≤ w.heap.size + 1 + 1 + 1 + 1 := by omega
  exact ⟨h.2.same x y, (h.1.2.2.2.2.2.2.2.2.setCell l3 _).setCell l3 _⟩
/-- what Cross gives -/
def CrossOut (x y E : Int) (w : World) (e : Ending) (w' : World) : Prop := e = .returned (.tuple #[.agg #[.int .i64 x, .int .i64 y], .int .i64 E]) ∧ Below w.heap.size w w'
theorem alloc_pt : ∀ o : Oper, o.op = .alloc 23 → ∀ (a : Act) (v : World), (execOp a.eval o).run Try.prog v = .ok (.value (.pointer (some ⟨v.heap.size, 0, none⟩))) (v.alloc (.cells #[.int .i64 0, .int .i64 0] 23)) := by
  intro o ho a v; simp [execOp, ho, go_sem]

set_option maxRecDepth 100000 in
set_option maxHeartbeats 4000000 in
theorem rCross_any (ax ay bx by_ cx cy dx dy : Int) (w : World) :
    Calls Try.prog 14 #[.agg #[.int .i64 ax, .int .i64 ay], .agg #[.int .i64 bx, .int .i64 by_], .agg #[.int .i64 cx, .int .i64 cy], .agg #[.int .i64 dx, .int .i64 dy]] w (CrossOut (crP ax ay bx by_ cx cy dx dy).1 (crP ax ay bx by_ cx cy dx dy).2 (crE ax ay bx by_ cx cy dx dy) w) := by
  have HC := Lib.hid (cr_cases ax ay bx by_ cx cy dx dy)
  have HI := Lib.hid (near4_iff ax ay bx by_ cx cy dx dy)
  have MT := Lib.hid (fun v => rMeet_any ax ay bx by_ cx cy dx dy v)
  rw [rm_eq] at MT
  have O1 := Lib.hid (fun v => rOn_any cx cy dx dy ax ay v)
  have O2 := Lib.hid (fun v => rOn_any cx cy dx dy bx by_ v)
  have O3 := Lib.hid (fun v => rOn_any ax ay bx by_ cx cy v)
  have O4 := Lib.hid (fun v => rOn_any ax ay bx by_ dx dy v)
  generalize (crP ax ay bx by_ cx cy dx dy).1 = X at *
  generalize (crP ax ay bx by_ cx cy dx dy).2 = Y at *
  generalize crE ax ay bx by_ cx cy dx dy = E at *
  generalize mtF ax ay bx by_ cx cy dx dy = t at *
  generalize onF cx cy dx dy ax ay = o1 at *
  generalize onF cx cy dx dy bx by_ = o2 at *
  generalize onF ax ay bx by_ cx cy = o3 at *
  generalize onF ax ay bx by_ dx dy = o4 at *
  go_enter Try.func14, Try.ntmps14
  go_wp2_with fail
  refine (rnearX w ax ay bx by_ cx cy dx dy).mono ?_
  rintro e w1 ⟨rfl, HB⟩
  have H1 := Lib.hid HB
  clear HB
  obtain ⟨⟨c0, c1, c2, c3, c4, c5, c6, c7, -⟩, ⟨d0, d1, y0⟩⟩ := H1.out
  rcases HC.out with h | h | h | h | h | h | h | h
  · obtain ⟨hn, rfl, rfl, rfl⟩ := h
    rw [hn]
    clear HC
    go_wp2
    obtain ⟨⟨k0, k1, k2⟩, k3⟩ := cross_end H1.out 0 0
    exact bodyPost_ret (v := .tuple #[.agg #[.int .i64 0, .int .i64 0], .int .i64 2]) (by simp [results, Try.results14, go_sem, k0, k1]) rfl ⟨rfl, k3⟩
  · obtain ⟨hn, rfl, rfl, rfl, rfl⟩ := h
    rw [hn]
    clear HC
    go_wp2_with fail
    refine (MT.out _).mono ?_
    rintro e w2 ⟨rfl, hb2⟩
    have H2 := Lib.hid (H1.out.later hb2)
    clear H1 hb2
    clear c0 c1 c2 c3 c4 c5 c6 c7 d0 d1 y0
    obtain ⟨⟨c0, c1, c2, c3, c4, c5, c6, c7, -⟩, ⟨d0, d1, y0⟩⟩ := H2.out
    go_wp2
    obtain ⟨⟨k0, k1, k2⟩, k3⟩ := cross_end H2.out 0 0
    exact bodyPost_ret (v := .tuple #[.agg #[.int .i64 0, .int .i64 0], .int .i64 7]) (by simp [results, Try.results14, go_sem, k0, k1]) rfl ⟨rfl, k3⟩
  · obtain ⟨hn, rfl, rfl, rfl, rfl⟩ := h
    rw [hn]
    clear HC
    go_wp2_with fail
    refine (MT.out _).mono ?_
    rintro e w2 ⟨rfl, hb2⟩
    have H2 := Lib.hid (H1.out.later hb2)
    clear H1 hb2
    clear c0 c1 c2 c3 c4 c5 c6 c7 d0 d1 y0
    obtain ⟨⟨c0, c1, c2, c3, c4, c5, c6, c7, -⟩, ⟨d0, d1, y0⟩⟩ := H2.out
    go_wp2
    obtain ⟨⟨k0, k1, k2⟩, k3⟩ := cross_end H2.out 0 0
    exact bodyPost_ret (v := .tuple #[.agg #[.int .i64 0, .int .i64 0], .int .i64 1]) (by simp [results, Try.results14, go_sem, k0, k1]) rfl ⟨rfl, k3⟩
  · obtain ⟨hn, rfl, rfl, rfl, hX, hY⟩ := h
    rw [hn]
    have hX := hX.symm
    have hY := hY.symm
    subst hX
    subst hY
    clear HC HI
    go_wp2_with fail
    refine (MT.out _).mono ?_
    rintro e w2 ⟨rfl, hb2⟩
    have H2 := Lib.hid (H1.out.later hb2)
    clear H1 hb2 MT
    clear c0 c1 c2 c3 c4 c5 c6 c7 d0 d1 y0
    obtain ⟨⟨c0, c1, c2, c3, c4, c5, c6, c7, -⟩, ⟨d0, d1, y0⟩⟩ := H2.out
    go_wp2_with fail
    refine (O1.out _).mono ?_
    rintro e w3 ⟨rfl, hb3⟩
    have H3 := Lib.hid (H2.out.later hb3)
    clear H2 hb3 O1
    clear c0 c1 c2 c3 c4 c5 c6 c7 d0 d1 y0
    obtain ⟨⟨c0, c1, c2, c3, c4, c5, c6, c7, -⟩, ⟨d0, d1, y0⟩⟩ := H3.out
    go_wp2
    obtain ⟨⟨k0, k1, k2⟩, k3⟩ := cross_end H3.out ax ay
    exact bodyPost_ret (v := .tuple #[.agg #[.int .i64 ax, .int .i64 ay], .int .i64 0]) (by simp [results, Try.results14, go_sem, k0, k1]) rfl ⟨rfl, k3⟩
  · obtain ⟨hn, rfl, rfl, rfl, rfl, hX, hY⟩ := h
    rw [hn]
    have hX := hX.symm
    have hY := hY.symm
    subst hX
    subst hY
    clear HC HI
    go_wp2_with fail
    refine (MT.out _).mono ?_
    rintro e w2 ⟨rfl, hb2⟩
    have H2 := Lib.hid (H1.out.later hb2)
    clear H1 hb2 MT
    clear c0 c1 c2 c3 c4 c5 c6 c7 d0 d1 y0
    obtain ⟨⟨c0, c1, c2, c3, c4, c5, c6, c7, -⟩, ⟨d0, d1, y0⟩⟩ := H2.out
    go_wp2_with fail
    refine (O1.out _).mono ?_
    rintro e w3 ⟨rfl, hb3⟩
    have H3 := Lib.hid (H2.out.later hb3)
    clear H2 hb3 O1
    clear c0 c1 c2 c3 c4 c5 c6 c7 d0 d1 y0
    obtain ⟨⟨c0, c1, c2, c3, c4, c5, c6, c7, -⟩, ⟨d0, d1, y0⟩⟩ := H3.out
    go_wp2_with fail
    refine (O2.out _).mono ?_
    rintro e w4 ⟨rfl, hb4⟩
    have H4 := Lib.hid (H3.out.later hb4)
    clear H3 hb4 O2
    clear c0 c1 c2 c3 c4 c5 c6 c7 d0 d1 y0
    obtain ⟨⟨c0, c1, c2, c3, c4, c5, c6, c7, -⟩, ⟨d0, d1, y0⟩⟩ := H4.out
    go_wp2
    obtain ⟨⟨k0, k1, k2⟩, k3⟩ := cross_end H4.out bx by_
    exact bodyPost_ret (v := .tuple #[.agg #[.int .i64 bx, .int .i64 by_], .int .i64 0]) (by simp [results, Try.results14, go_sem, k0, k1]) rfl ⟨rfl, k3⟩
  · obtain ⟨hn, rfl, rfl, rfl, rfl, rfl, hX, hY⟩ := h
    rw [hn]
    have hX := hX.symm
    have hY := hY.symm
    subst hX
    subst hY
    clear HC HI
    go_wp2_with fail
    refine (MT.out _).mono ?_
    rintro e w2 ⟨rfl, hb2⟩
    have H2 := Lib.hid (H1.out.later hb2)
    clear H1 hb2 MT
    clear c0 c1 c2 c3 c4 c5 c6 c7 d0 d1 y0
    obtain ⟨⟨c0, c1, c2, c3, c4, c5, c6, c7, -⟩, ⟨d0, d1, y0⟩⟩ := H2.out
    go_wp2_with fail
    refine (O1.out _).mono ?_
    rintro e w3 ⟨rfl, hb3⟩
    have H3 := Lib.hid (H2.out.later hb3)
    clear H2 hb3 O1
    clear c0 c1 c2 c3 c4 c5 c6 c7 d0 d1 y0
    obtain ⟨⟨c0, c1, c2, c3, c4, c5, c6, c7, -⟩, ⟨d0, d1, y0⟩⟩ := H3.out
    go_wp2_with fail
    refine (O2.out _).mono ?_
    rintro e w4 ⟨rfl, hb4⟩
    have H4 := Lib.hid (H3.out.later hb4)
    clear H3 hb4 O2
    clear c0 c1 c2 c3 c4 c5 c6 c7 d0 d1 y0
    obtain ⟨⟨c0, c1, c2, c3, c4, c5, c6, c7, -⟩, ⟨d0, d1, y0⟩⟩ := H4.out
    go_wp2_with fail
    refine (O3.out _).mono ?_
    rintro e w5 ⟨rfl, hb5⟩
    have H5 := Lib.hid (H4.out.later hb5)
    clear H4 hb5 O3
    clear c0 c1 c2 c3 c4 c5 c6 c7 d0 d1 y0
    obtain ⟨⟨c0, c1, c2, c3, c4, c5, c6, c7, -⟩, ⟨d0, d1, y0⟩⟩ := H5.out
    go_wp2
    obtain ⟨⟨k0, k1, k2⟩, k3⟩ := cross_end H5.out cx cy
    exact bodyPost_ret (v := .tuple #[.agg #[.int .i64 cx, .int .i64 cy], .int .i64 0]) (by simp [results, Try.results14, go_sem, k0, k1]) rfl ⟨rfl, k3⟩
  · obtain ⟨hn, rfl, rfl, rfl, rfl, rfl, rfl, hX, hY⟩ := h
    rw [hn]
    have hX := hX.symm
    have hY := hY.symm
    subst hX
    subst hY
    clear HC HI
    go_wp2_with fail
    refine (MT.out _).mono ?_
    rintro e w2 ⟨rfl, hb2⟩
    have H2 := Lib.hid (H1.out.later hb2)
    clear H1 hb2 MT
    clear c0 c1 c2 c3 c4 c5 c6 c7 d0 d1 y0
    obtain ⟨⟨c0, c1, c2, c3, c4, c5, c6, c7, -⟩, ⟨d0, d1, y0⟩⟩ := H2.out
    go_wp2_with fail
    refine (O1.out _).mono ?_
    rintro e w3 ⟨rfl, hb3⟩
    have H3 := Lib.hid (H2.out.later hb3)
    clear H2 hb3 O1
    clear c0 c1 c2 c3 c4 c5 c6 c7 d0 d1 y0
    obtain ⟨⟨c0, c1, c2, c3, c4, c5, c6, c7, -⟩, ⟨d0, d1, y0⟩⟩ := H3.out
    go_wp2_with fail
    refine (O2.out _).mono ?_
    rintro e w4 ⟨rfl, hb4⟩
    have H4 := Lib.hid (H3.out.later hb4)
    clear H3 hb4 O2
    clear c0 c1 c2 c3 c4 c5 c6 c7 d0 d1 y0
    obtain ⟨⟨c0, c1, c2, c3, c4, c5, c6, c7, -⟩, ⟨d0, d1, y0⟩⟩ := H4.out
    go_wp2_with fail
    refine (O3.out _).mono ?_
    rintro e w5 ⟨rfl, hb5⟩
    have H5 := Lib.hid (H4.out.later hb5)
    clear H4 hb5 O3
    clear c0 c1 c2 c3 c4 c5 c6 c7 d0 d1 y0
    obtain ⟨⟨c0, c1, c2, c3, c4, c5, c6, c7, -⟩, ⟨d0, d1, y0⟩⟩ := H5.out
    go_wp2_with fail
    refine (O4.out _).mono ?_
    rintro e w6 ⟨rfl, hb6⟩
    have H6 := Lib.hid (H5.out.later hb6)
    clear H5 hb6 O4
    clear c0 c1 c2 c3 c4 c5 c6 c7 d0 d1 y0
    obtain ⟨⟨c0, c1, c2, c3, c4, c5, c6, c7, -⟩, ⟨d0, d1, y0⟩⟩ := H6.out
    go_wp2
    obtain ⟨⟨k0, k1, k2⟩, k3⟩ := cross_end H6.out dx dy
    exact bodyPost_ret (v := .tuple #[.agg #[.int .i64 dx, .int .i64 dy], .int .i64 0]) (by simp [results, Try.results14, go_sem, k0, k1]) rfl ⟨rfl, k3⟩
  · obtain ⟨hn, rfl, rfl, rfl, rfl, rfl, rfl, rfl, rfl, hm0, hrg⟩ := h
    rw [hn]
    have HN := Lib.hid (HI.out.1 hn)
    clear HC HI
    go_wp2_with fail
    refine (MT.out _).mono ?_
    rintro e w2 ⟨rfl, hb2⟩
    have H2 := Lib.hid (H1.out.later hb2)
    clear H1 hb2 MT
    clear c0 c1 c2 c3 c4 c5 c6 c7 d0 d1 y0
    obtain ⟨⟨c0, c1, c2, c3, c4, c5, c6, c7, -⟩, ⟨d0, d1, y0⟩⟩ := H2.out
    go_wp2_with fail
    refine (O1.out _).mono ?_
    rintro e w3 ⟨rfl, hb3⟩
    have H3 := Lib.hid (H2.out.later hb3)
    clear H2 hb3 O1
    clear c0 c1 c2 c3 c4 c5 c6 c7 d0 d1 y0
    obtain ⟨⟨c0, c1, c2, c3, c4, c5, c6, c7, -⟩, ⟨d0, d1, y0⟩⟩ := H3.out
    go_wp2_with fail
    refine (O2.out _).mono ?_
    rintro e w4 ⟨rfl, hb4⟩
    have H4 := Lib.hid (H3.out.later hb4)
    clear H3 hb4 O2
    clear c0 c1 c2 c3 c4 c5 c6 c7 d0 d1 y0
    obtain ⟨⟨c0, c1, c2, c3, c4, c5, c6, c7, -⟩, ⟨d0, d1, y0⟩⟩ := H4.out
    go_wp2_with fail
    refine (O3.out _).mono ?_
    rintro e w5 ⟨rfl, hb5⟩
    have H5 := Lib.hid (H4.out.later hb5)
    clear H4 hb5 O3
    clear c0 c1 c2 c3 c4 c5 c6 c7 d0 d1 y0
    obtain ⟨⟨c0, c1, c2, c3, c4, c5, c6, c7, -⟩, ⟨d0, d1, y0⟩⟩ := H5.out
    go_wp2_with fail
    refine (O4.out _).mono ?_
    rintro e w6 ⟨rfl, hb6⟩
    have H6 := Lib.hid (H5.out.later hb6)
    clear H5 hb6 O4
    clear c0 c1 c2 c3 c4 c5 c6 c7 d0 d1 y0
    obtain ⟨⟨c0, c1, c2, c3, c4, c5, c6, c7, -⟩, ⟨d0, d1, y0⟩⟩ := H6.out
    have n1 := cr_in HN.out.1 HN.out.2.2.1 HN.out.2.2.1 HN.out.2.2.2
    have m1 := cr_in HN.out.1 HN.out.2.1 HN.out.2.2.1 HN.out.2.2.2
    have C1 := Lib.hid (fun v => ccross_any ax ay cx cy cx cy dx dy v HN.out.1 HN.out.2.2.1 HN.out.2.2.1 HN.out.2.2.2)
    have C2 := Lib.hid (fun v => ccross_any ax ay bx by_ cx cy dx dy v HN.out.1 HN.out.2.1 HN.out.2.2.1 HN.out.2.2.2)
    have hna := HN.out.1
    have hnb := HN.out.2.1
    unfold Nr at hna hnb
    have A1 := Lib.hid (fun v => along_any ax (bx - ax) (cr ax ay cx cy cx cy dx dy) (cr ax ay bx by_ cx cy dx dy) v (by omega) (by omega) hrg (by omega) hm0)
    have A2 := Lib.hid (fun v => along_any ay (by_ - ay) (cr ax ay cx cy cx cy dx dy) (cr ax ay bx by_ cx cy dx dy) v (by omega) (by omega) hrg (by omega) hm0)
    have RX := rnd_bound (n := bx - ax) (k := cr ax ay cx cy cx cy dx dy) (d := cr ax ay bx by_ cx cy dx dy) (M := 4194304) hm0 (by omega) hrg
    have RY := rnd_bound (n := by_ - ay) (k := cr ax ay cx cy cx cy dx dy) (d := cr ax ay bx by_ cx cy dx dy) (M := 4194304) hm0 (by omega) hrg
    generalize rnd ((bx - ax) * cr ax ay cx cy cx cy dx dy) (cr ax ay bx by_ cx cy dx dy) = X at *
    generalize rnd ((by_ - ay) * cr ax ay cx cy cx cy dx dy) (cr ax ay bx by_ cx cy dx dy) = Y at *
    generalize cr ax ay cx cy cx cy dx dy = n at *
    generalize cr ax ay bx by_ cx cy dx dy = m at *
    clear hrg hm0 n1 m1 HN
    have L0 := fun k : Later w6 => k.cell c0
    have L1 := fun k : Later w6 => k.cell c1
    have L2 := fun k : Later w6 => k.cell c2
    have L3 := fun k : Later w6 => k.cell c3
    have L4 := fun k : Later w6 => k.cell c4
    have L5 := fun k : Later w6 => k.cell c5
    have L6 := fun k : Later w6 => k.cell c6
    have L7 := fun k : Later w6 => k.cell c7
    go_wp2_with fail
    refine region_later (by kernel_rfl) (by kernel_rfl) ?_
    (go_big_quiet_want; go_big_quiet_op; go_big_quiet_on)
    (go_big_quiet_want; go_big_quiet_op; go_big_quiet_on)
    (go_big_quiet_want; go_big_quiet_op; go_big_quiet_on)
    (go_big_quiet_want; go_big_quiet_op; go_big_quiet_on)
    (go_big_quiet_want; go_big_quiet_op; go_big_quiet_call (exact later_of (C1.out _)))
    (go_big_quiet_want; go_big_quiet_op; go_big_quiet_on)
    (go_big_quiet_want; go_big_quiet_op; go_big_quiet_on)
    (go_big_quiet_want; go_big_quiet_op; go_big_quiet_on)
    (go_big_quiet_want; go_big_quiet_op; go_big_quiet_on)
    (go_big_quiet_want; go_big_quiet_op; go_big_quiet_call (exact later_of (C2.out _)))
    (go_big_quiet_want; go_big_quiet_op; go_big_quiet_on)
    (go_big_quiet_want; go_big_quiet_op; go_big_quiet_on)
    refine wpQuiet_nil ?_
    refine later_end ?_
    intro k
    have H7 := Lib.hid (H6.out.later k.below)
    clear H6 L0 L1 L2 L3 L4 L5 L6 L7 C1 C2
    clear c0 c1 c2 c3 c4 c5 c6 c7 d0 d1 y0
    generalize k.wd = u at *
    clear k
    obtain ⟨⟨c0, c1, c2, c3, c4, c5, c6, c7, -⟩, ⟨d0, d1, y0⟩⟩ := H7.out
    go_wp2_with fail
    refine region_free (P := Try.prog) 21 21 86 23 (.cells #[.int .i64 0, .int .i64 0] 23) (by kernel_rfl) (by decide) (by kernel_rfl) ?_ (by kernel_rfl) (by kernel_rfl) alloc_pt ?_
    · rfl
    apply Exists.intro
    refine ⟨?hq, ?hfin⟩
    case hq =>
      intro X' hne
      haveI := hne
      simp only [List.take_succ_cons, List.take_zero]
      have L0 := fun m' : LaterX u X' => m'.cell c0
      have L1 := fun m' : LaterX u X' => m'.cell c1
      have L2 := fun m' : LaterX u X' => m'.cell c2
      have L3 := fun m' : LaterX u X' => m'.cell c3
      (go_big_quiet_want; go_big_quiet_op; go_big_quiet_on)
      (go_big_quiet_want; go_big_quiet_op; go_big_quiet_on)
      (go_big_quiet_want; go_big_quiet_op; go_big_quiet_on)
      (go_big_quiet_want; go_big_quiet_op; go_big_quiet_on)
      (go_big_quiet_want; go_big_quiet_op; go_big_quiet_on)
      (go_big_quiet_want; go_big_quiet_op; go_big_quiet_on)
      (go_big_quiet_want; go_big_quiet_op; go_big_quiet_on)
      (go_big_quiet_want; go_big_quiet_op; go_big_quiet_on)
      (go_big_quiet_want; go_big_quiet_op; go_big_quiet_on)
      (go_big_quiet_want; go_big_quiet_op; go_big_quiet_call (exact laterX_of (A1.out _)))
      (go_big_quiet_want; go_big_quiet_op; go_big_quiet_on)
      (go_big_quiet_want; go_big_quiet_op; go_big_quiet_on)
      (go_big_quiet_want; go_big_quiet_op; go_big_quiet_on)
      (go_big_quiet_want; go_big_quiet_op; go_big_quiet_on)
      (go_big_quiet_want; go_big_quiet_op; go_big_quiet_on)
      (go_big_quiet_want; go_big_quiet_op; go_big_quiet_on)
      (go_big_quiet_want; go_big_quiet_op; go_big_quiet_on)
      (go_big_quiet_want; go_big_quiet_op; go_big_quiet_on)
      (go_big_quiet_want; go_big_quiet_op; go_big_quiet_on)
      (go_big_quiet_want; go_big_quiet_op; go_big_quiet_call (exact laterX_of (A2.out _)))
      (go_big_quiet_want; go_big_quiet_op; go_big_quiet_on)
      exact wpQuiet_nil rfl
    intro G w8 hb hG hd
    simp only [List.take_succ_cons, List.take_zero, List.drop_succ_cons, List.drop_zero, ptrs, putsL]
    have H8 := Lib.hid (H7.out.later hb)
    clear H7 hG hd hb A1 A2
    clear c0 c1 c2 c3 c4 c5 c6 c7 d0 d1 y0
    obtain ⟨⟨c0, c1, c2, c3, c4, c5, c6, c7, -⟩, ⟨d0, d1, y0⟩⟩ := H8.out
    go_wp2
    obtain ⟨⟨k0, k1, k2⟩, k3⟩ := cross_end H8.out (ax + X) (ay + Y)
    exact bodyPost_ret (v := .tuple #[.agg #[.int .i64 (ax + X), .int .i64 (ay + Y)], .int .i64 0]) (by simp [results, Try.results14, go_sem, k0, k1]) rfl ⟨rfl, k3⟩
end Go.Proofs.Ytpdiojndfckmfaa
