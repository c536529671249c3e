/- The contract of cut.Clip. -/
import Derived.Test.YtpdiojndfckmfaaCutG
import Derived.Test.YtpdiojndfckmfaaCutD
namespace Go.Proofs.Ytpdiojndfckmfaa
open Go.RowKit
open Num Geo Cut
set_option linter.unusedVariables false
/-- what Clip gives -/
def ClipOut (ax ay bx by_ x0 y0 x1 y1 : Int) (w : World) (e : Ending) (w' : World) : Prop :=
  e = .returned (.tuple #[.agg #[.int .i64 (clV (clO ax ay bx by_ x0 y0 x1 y1) (clS ax ay bx by_ x0 y0 x1 y1).x1), .int .i64 (clV (clO ax ay bx by_ x0 y0 x1 y1) (clS ax ay bx by_ x0 y0 x1 y1).y1)],
    .agg #[.int .i64 (clV (clO ax ay bx by_ x0 y0 x1 y1) (clS ax ay bx by_ x0 y0 x1 y1).x2), .int .i64 (clV (clO ax ay bx by_ x0 y0 x1 y1) (clS ax ay bx by_ x0 y0 x1 y1).y2)], .bool (clO ax ay bx by_ x0 y0 x1 y1)]) ∧ Below w.heap.size w w'
theorem lim2_sb {S : St} {s w e X Y : Int} (hS : SB S) (hs : -2097152 ≤ s ∧ s ≤ 2097152) (hw : -4194304 ≤ w ∧ w ≤ 4194304) (h0 : w ≠ 0) : SB (lim2 S s w e X Y) := by
  have h := r_in (v := e) hs hw h0
  unfold lim2 SB at *
  repeat' split
  · exact ⟨hS.1, hS.2.1, h.1, h.2⟩
  · exact hS
  · exact hS
theorem lim_sb {S : St} {s w f t : Int} {px py : Int → Int} (hS : SB S) (hs : -2097152 ≤ s ∧ s ≤ 2097152) (hw : -4194304 ≤ w ∧ w ≤ 4194304) : SB (lim S s w f t px py) := by
  unfold lim
  split
  · exact hS
  · exact lim2_sb (lim1_sb hS hs hw (by omega)) hs hw (by omega)
theorem st0_sb {ax ay bx by_ : Int} : SB (St0 ax ay bx by_) := by unfold SB St0; simp
/-- the boxes of Clip: the two points, the box, the two results -/
def CB (W v : World) (n : Nat) (ax ay bx by_ x0 y0 x1 y1 : Int) : Prop := Bx v n ax ay ∧ Bx v (n + 1) bx by_ ∧ Pl v (n + 1 + 1) x0 y0 x1 y1 ∧ Bx v (n + 1 + 1 + 1) 0 0 ∧ Bx v (n + 1 + 1 + 1 + 1) 0 0 ∧ Below n W v
theorem CB.later {W v u : World} {n : Nat} {ax ay bx by_ x0 y0 x1 y1 : Int} (h : CB W v n ax ay bx by_ x0 y0 x1 y1) (hn : n ≤ v.heap.size) (hb : Below v.heap.size v u) : CB W u n ax ay bx by_ x0 y0 x1 y1 :=
  ⟨h.1.later hb, h.2.1.later hb, h.2.2.1.later hb, h.2.2.2.1.later hb, h.2.2.2.2.1.later hb, h.2.2.2.2.2.trans (hb.mono hn)⟩
theorem Pl.keep {B b : Nat} {v u : World} {n d x y : Int} (h : Pl v b n d x y) (hb : Below B v u) (hl : b < B) : Pl u b n d x y := by
  refine ⟨?_, ?_, ?_, ?_, fun o => ?_⟩
  · rw [hb.cell hl]; exact h.1
  · rw [hb.cell hl]; exact h.2.1
  · rw [hb.cell hl]; exact h.2.2.1
  · rw [hb.cell hl]; exact h.2.2.2.1
  · exact (hb.frozen (p := ⟨b, o, none⟩) hl).trans (h.2.2.2.2 o)
theorem CB.keep {W v u : World} {n : Nat} {ax ay bx by_ x0 y0 x1 y1 : Int} (h : CB W v n ax ay bx by_ x0 y0 x1 y1) (hb : Below (n + 1 + 1 + 1 + 1 + 1) v u) : CB W u n ax ay bx by_ x0 y0 x1 y1 :=
  ⟨h.1.keep hb (by omega), h.2.1.keep hb (by omega), h.2.2.1.keep hb (by omega), h.2.2.2.1.keep hb (by omega), h.2.2.2.2.1.keep hb (by omega), h.2.2.2.2.2.trans (hb.mono (by omega))⟩
def C6 (w : World) (ax ay bx by_ x0 y0 x1 y1 : Int) : World :=
  (((((w.alloc (.cells #[.int .i64 ax, .int .i64 ay] 23)).alloc (.cells #[.int .i64 bx, .int .i64 by_] 23)).alloc (.cells #[.int .i64 x0, .int .i64 y0, .int .i64 x1, .int .i64 y1] 25)).alloc (.cells #[.int .i64 0, .int .i64 0] 23)).alloc (.cells #[.int .i64 0, .int .i64 0] 23)).alloc (.cells #[.bool false] 4)
theorem C6_size (w : World) (ax ay bx by_ x0 y0 x1 y1 : Int) : (C6 w ax ay bx by_ x0 y0 x1 y1).heap.size = w.heap.size + 1 + 1 + 1 + 1 + 1 + 1 := by unfold C6; simp
theorem C6_has (w : World) (ax ay bx by_ x0 y0 x1 y1 : Int) : CB w (C6 w ax ay bx by_ x0 y0 x1 y1) w.heap.size ax ay bx by_ x0 y0 x1 y1 ∧ Bl (C6 w ax ay bx by_ x0 y0 x1 y1) (w.heap.size + 1 + 1 + 1 + 1 + 1) false := by
  have s1 : (w.alloc (.cells #[.int .i64 ax, .int .i64 ay] 23)).heap.size = w.heap.size + 1 := by simp
  have a1 := Bx.new w ax ay 23
  have b1 := below_al w (.cells #[.int .i64 ax, .int .i64 ay] 23)
  unfold C6
  generalize w.alloc (.cells #[.int .i64 ax, .int .i64 ay] 23) = v1 at *
  have s2 : (v1.alloc (.cells #[.int .i64 bx, .int .i64 by_] 23)).heap.size = w.heap.size + 1 + 1 := by simp [s1]
  have a2 := Bx.new v1 bx by_ 23
  have b2 := below_al v1 (.cells #[.int .i64 bx, .int .i64 by_] 23)
  generalize v1.alloc (.cells #[.int .i64 bx, .int .i64 by_] 23) = v2 at *
  have s3 : (v2.alloc (.cells #[.int .i64 x0, .int .i64 y0, .int .i64 x1, .int .i64 y1] 25)).heap.size = w.heap.size + 1 + 1 + 1 := by simp [s2]
  have a3 := Pl.new v2 x0 y0 x1 y1 25
  have b3 := below_al v2 (.cells #[.int .i64 x0, .int .i64 y0, .int .i64 x1, .int .i64 y1] 25)
  generalize v2.alloc (.cells #[.int .i64 x0, .int .i64 y0, .int .i64 x1, .int .i64 y1] 25) = v3 at *
  have s4 : (v3.alloc (.cells #[.int .i64 0, .int .i64 0] 23)).heap.size = w.heap.size + 1 + 1 + 1 + 1 := by simp [s3]
  have a4 := Bx.new v3 0 0 23
  have b4 := below_al v3 (.cells #[.int .i64 0, .int .i64 0] 23)
  generalize v3.alloc (.cells #[.int .i64 0, .int .i64 0] 23) = v4 at *
  have s5 : (v4.alloc (.cells #[.int .i64 0, .int .i64 0] 23)).heap.size = w.heap.size + 1 + 1 + 1 + 1 + 1 := by simp [s4]
  have a5 := Bx.new v4 0 0 23
  have b5 := below_al v4 (.cells #[.int .i64 0, .int .i64 0] 23)
  generalize v4.alloc (.cells #[.int .i64 0, .int .i64 0] 23) = v5 at *
  have a6 := Bl.new v5 false 4
  have b6 := below_al v5 (.cells #[.bool false] 4)
  rw [s5] at a6
  rw [s4] at a5
  rw [s3] at a4
  rw [s2] at a3
  rw [s1] at a2
  exact ⟨⟨((((a1.later b2).later b3).later b4).later b5).later b6, (((a2.later b3).later b4).later b5).later b6, ((a3.later b4).later b5).later b6, (a4.later b5).later b6, a5.later b6, below_on (below_on (below_on (below_on (below_on b1 b2) b3) b4) b5) b6⟩, a6⟩
theorem C6_pts (w : World) (ax ay bx by_ x0 y0 x1 y1 : Int) : Pts ((C6 w ax ay bx by_ x0 y0 x1 y1).alloc (.cells #[.int .i64 ax, .int .i64 ay, .int .i64 bx, .int .i64 by_] 23)) ((C6 w ax ay bx by_ x0 y0 x1 y1).alloc (.cells #[.int .i64 ax, .int .i64 ay, .int .i64 bx, .int .i64 by_] 23)).heap.size (some ⟨w.heap.size + 1 + 1 + 1 + 1 + 1 + 1, 0, none⟩) [(ax, ay), (bx, by_)] := fun _ => by
  refine ⟨_, _, rfl, ?_, ?_⟩
  · rw [← C6_size w ax ay bx by_ x0 y0 x1 y1]; simp
  · intro j hj
    rw [← C6_size w ax ay bx by_ x0 y0 x1 y1]
    match j, hj with
    | 0, _ => exact ⟨by simp, by simp⟩
    | 1, _ => exact ⟨by simp, by simp⟩
theorem accC (w : World) (ax ay bx by_ x0 y0 x1 y1 : Int) : Calls Try.prog 26 #[.slice (some ⟨w.heap.size + 1 + 1 + 1 + 1 + 1 + 1, 0, none⟩) 2 2] ((C6 w ax ay bx by_ x0 y0 x1 y1).alloc (.cells #[.int .i64 ax, .int .i64 ay, .int .i64 bx, .int .i64 by_] 23))
    fun e w' => e = .returned (.bool (nearL [(ax, ay), (bx, by_)])) ∧ CB w w' w.heap.size ax ay bx by_ x0 y0 x1 y1 ∧ Bl w' (w.heap.size + 1 + 1 + 1 + 1 + 1) false :=
  (acc_any [(ax, ay), (bx, by_)] _ 2 _ (by simp) (C6_pts w ax ay bx by_ x0 y0 x1 y1)).mono fun e w' ⟨h1, h2⟩ => by
    have hs := C6_size w ax ay bx by_ x0 y0 x1 y1
    have h := below_on (below_al (C6 w ax ay bx by_ x0 y0 x1 y1) (.cells #[.int .i64 ax, .int .i64 ay, .int .i64 bx, .int .i64 by_] 23)) h2
    obtain ⟨g1, g2⟩ := C6_has w ax ay bx by_ x0 y0 x1 y1
    exact ⟨h1, g1.later (by omega) h, g2.later h⟩
/-- the results are written -/
theorem clip_end {W u : World} {n : Nat} {ax ay bx by_ x0 y0 x1 y1 : Int} {o : Bool} (h : CB W u n ax ay bx by_ x0 y0 x1 y1) (g : Bl u (n + 1 + 1 + 1 + 1 + 1) o) (cx cy dx dy : Int) (o' : Bool) :
    let v := ((((u.setCell ⟨n + 1 + 1 + 1, 0, none⟩ (.int .i64 cx)).setCell ⟨n + 1 + 1 + 1, 1, none⟩ (.int .i64 cy)).setCell ⟨n + 1 + 1 + 1 + 1, 0, none⟩ (.int .i64 dx)).setCell ⟨n + 1 + 1 + 1 + 1, 1, none⟩ (.int .i64 dy)).setCell ⟨n + 1 + 1 + 1 + 1 + 1, 0, none⟩ (.bool o')
    Bx v (n + 1 + 1 + 1) cx cy ∧ Bx v (n + 1 + 1 + 1 + 1) dx dy ∧ Bl v (n + 1 + 1 + 1 + 1 + 1) o' ∧ Below n W v := by
  intro v
  refine ⟨?_, ?_, ?_, ?_⟩
  · exact (((h.2.2.2.1.same cx cy).other (by omega) _).other (by omega) _).other (by omega) _
  · exact (((h.2.2.2.2.1.other (by omega) _).other (by omega) _).same dx dy).other (by omega) _
  · exact ((((g.other (by omega) _).other (by omega) _).other (by omega) _).other (by omega) _).same o'
  · exact ((((h.2.2.2.2.2.setCell (by show n ≤ n + 1 + 1 + 1; omega) _).setCell (by show n ≤ n + 1 + 1 + 1; omega) _).setCell (by show n ≤ n + 1 + 1 + 1 + 1; omega) _).setCell (by show n ≤ n + 1 + 1 + 1 + 1; omega) _).setCell (by show n ≤ n + 1 + 1 + 1 + 1 + 1; omega) _
theorem below_drew {n : Nat} {w a : World} (h : Below n w a) : Below n w a.drew := h.trans ⟨rfl, rfl, rfl, Nat.le_refl _, fun _ _ => rfl⟩
/-- the two places are laid -/
theorem clip_mid {W u : World} {n : Nat} {ax ay bx by_ x0 y0 x1 y1 : Int} {o : Bool} (n1 d1 u1 v1 n2 d2 u2 v2 : Int) (h : CB W u n ax ay bx by_ x0 y0 x1 y1) (hb : Bl u (n + 1 + 1 + 1 + 1 + 1) o) :
    let v := (((u.setCell ⟨n + 1 + 1 + 1 + 1 + 1, 0, none⟩ (.bool true)).alloc (.cells #[.int .i64 n1, .int .i64 d1, .int .i64 u1, .int .i64 v1] 51)).alloc (.cells #[.int .i64 n2, .int .i64 d2, .int .i64 u2, .int .i64 v2] 51)).drew
    Bl v (n + 1 + 1 + 1 + 1 + 1) true ∧ Pl v u.heap.size n1 d1 u1 v1 ∧ Pl v (u.heap.size + 1) n2 d2 u2 v2 ∧ CB W v n ax ay bx by_ x0 y0 x1 y1 := by
  intro v
  have L := cell_lt hb.1
  have C := h.keep ((Below.refl _ u).setCell (p := ⟨n + 1 + 1 + 1 + 1 + 1, 0, none⟩) (Nat.le_refl _) (.bool true))
  have B := hb.same true
  have hs : (u.setCell ⟨n + 1 + 1 + 1 + 1 + 1, 0, none⟩ (.bool true)).heap.size = u.heap.size := by simp
  have hv : v = (((u.setCell ⟨n + 1 + 1 + 1 + 1 + 1, 0, none⟩ (.bool true)).alloc (.cells #[.int .i64 n1, .int .i64 d1, .int .i64 u1, .int .i64 v1] 51)).alloc (.cells #[.int .i64 n2, .int .i64 d2, .int .i64 u2, .int .i64 v2] 51)).drew := rfl
  rw [hv]
  clear hv v
  generalize u.setCell ⟨n + 1 + 1 + 1 + 1 + 1, 0, none⟩ (.bool true) = a at *
  have p1 := Pl.new a n1 d1 u1 v1 51
  have b1 := below_al a (.cells #[.int .i64 n1, .int .i64 d1, .int .i64 u1, .int .i64 v1] 51)
  have s1 : (a.alloc (.cells #[.int .i64 n1, .int .i64 d1, .int .i64 u1, .int .i64 v1] 51)).heap.size = u.heap.size + 1 := by simp [hs]
  rw [hs] at p1
  generalize a.alloc (.cells #[.int .i64 n1, .int .i64 d1, .int .i64 u1, .int .i64 v1] 51) = b at *
  have p2 := Pl.new b n2 d2 u2 v2 51
  have b2 := below_drew (below_al b (.cells #[.int .i64 n2, .int .i64 d2, .int .i64 u2, .int .i64 v2] 51))
  have b3 := below_drew (Below.refl (b.alloc (.cells #[.int .i64 n2, .int .i64 d2, .int .i64 u2, .int .i64 v2] 51)).heap.size (b.alloc (.cells #[.int .i64 n2, .int .i64 d2, .int .i64 u2, .int .i64 v2] 51)))
  rw [s1] at p2
  exact ⟨(B.later b1).later b2, p1.later b2, p2.later b3, (C.later (by omega) b1).later (by omega) b2⟩
theorem alloc_pl : ∀ o : Oper, o.op = .alloc 51 → ∀ (a : Act) (v : World), (execOp a.eval o).run Try.prog v = .ok (.value (.pointer (some ⟨v.heap.size, 0, none⟩))) (v.alloc (.cells #[.int .i64 0, .int .i64 0, .int .i64 0, .int .i64 0] 51)) := by
  intro o ho a v; simp [execOp, ho, go_sem]
/-- the state goes on in a later world -/
theorem lw_start {W v : World} {n g g' : Nat} {ax ay bx by_ x0 y0 x1 y1 : Int} {S : St} (h : CB W v n ax ay bx by_ x0 y0 x1 y1) (l : LM v (n + 1 + 1 + 1 + 1 + 1) g g' S) :
    LW v v (n + 1 + 1 + 1 + 1 + 1) (n + 1 + 1 + 1 + 1 + 1) g g' n (n + 1) ax ay bx by_ S := ⟨l, h.1, h.2.1, Below.refl _ _, Nat.le_of_lt (cell_lt l.1.1)⟩
theorem ret_clip {cx cy dx dy cx' cy' dx' dy' : Int} {o o' : Bool} (h1 : cx = cx') (h2 : cy = cy') (h3 : dx = dx') (h4 : dy = dy') (h5 : o = o') : Ending.returned (.tuple #[.agg #[.int .i64 cx, .int .i64 cy], .agg #[.int .i64 dx, .int .i64 dy], .bool o]) = .returned (.tuple #[.agg #[.int .i64 cx', .int .i64 cy'], .agg #[.int .i64 dx', .int .i64 dy'], .bool o']) := by rw [h1, h2, h3, h4, h5]
set_option maxRecDepth 100000 in
set_option maxHeartbeats 8000000 in
theorem Clip_any (ax ay bx by_ x0 y0 x1 y1 : Int) (w : World) (h1 : I64 x0) (h2 : I64 y0) (h3 : I64 x1) (h4 : I64 y1) :
    Calls Try.prog 12 #[.agg #[.int .i64 ax, .int .i64 ay], .agg #[.int .i64 bx, .int .i64 by_], .agg #[.int .i64 x0, .int .i64 y0, .int .i64 x1, .int .i64 y1]] w (ClipOut ax ay bx by_ x0 y0 x1 y1 w) := by
  have HN := Lib.hid (near2_iff ax ay bx by_)
  have HO : Hid (clO ax ay bx by_ x0 y0 x1 y1 = (nearL [(ax, ay), (bx, by_)] && stO (clS ax ay bx by_ x0 y0 x1 y1))) := Lib.hid rfl
  have HS : Hid (clS ax ay bx by_ x0 y0 x1 y1 = lim (lim (St0 ax ay bx by_) ax (bx - ax) x0 x1 (fun v => v) (fun v => atV ax ay bx by_ v)) ay (by_ - ay) y0 y1 (fun v => atV ay ax by_ bx v) (fun v => v)) := Lib.hid rfl
  have I1 := Lib.hid h1
  have I2 := Lib.hid h2
  have I3 := Lib.hid h3
  have I4 := Lib.hid h4
  clear h1 h2 h3 h4
  unfold ClipOut
  generalize clO ax ay bx by_ x0 y0 x1 y1 = o at *
  generalize clS ax ay bx by_ x0 y0 x1 y1 = S at *
  go_enter Try.func12, Try.ntmps12
  go_wp2_with fail
  refine (accC w ax ay bx by_ x0 y0 x1 y1).mono ?_
  rintro e w1 ⟨rfl, hb⟩
  have H1 := Lib.hid hb.1
  have B1 := Lib.hid hb.2
  clear hb
  obtain ⟨b0, yb⟩ := B1.out
  obtain ⟨⟨c0, c1, -⟩, ⟨c2, c3, -⟩, ⟨x0', x1', x2', x3', -⟩, ⟨r0, r1, yr⟩, ⟨s0, s1, ys⟩, -⟩ := H1.out
  cases hn : nearL [(ax, ay), (bx, by_)]
  · have ho : o = false := by rw [HO.out, hn]; rfl
    subst ho
    obtain ⟨⟨k0, k1, -⟩, ⟨k2, k3, -⟩, ⟨k4, -⟩, k5⟩ := clip_end H1.out B1.out 0 0 0 0 false
    clear HO HS HN
    go_wp2
    exact bodyPost_ret (v := .tuple #[.agg #[.int .i64 0, .int .i64 0], .agg #[.int .i64 0, .int .i64 0], .bool false]) (by simp [results, Try.results12, go_sem, k0, k1, k2, k3, k4]) rfl ⟨rfl, k5⟩
  · have ho : Hid (o = stO S) := Lib.hid (by rw [HO.out, hn]; rfl)
    have HB := Lib.hid (HN.out.1 hn)
    clear HO HN hn
    go_upto_region 3 with fail
    go_cut [9, 10] from 19 to 22 (fun v v' wc => ∃ g g', v = .pointer (some ⟨g, 0, none⟩) ∧ v' = .pointer (some ⟨g', 0, none⟩) ∧ Hid (LM wc (w.heap.size + 1 + 1 + 1 + 1 + 1) g g' (St0 ax ay bx by_)) ∧ Hid (CB w wc w.heap.size ax ay bx by_ x0 y0 x1 y1) ∧ Hid (w.heap.size + 1 + 1 + 1 + 1 + 1 + 1 ≤ g ∧ w.heap.size + 1 + 1 + 1 + 1 + 1 + 1 ≤ g' ∧ g ≠ g'))
    case first =>
      have lt := cell_lt b0
      have l0 := cell_lt c0
      have l2 := cell_lt c2
      have lt2 : w.heap.size + 1 + 1 + 1 + 1 + 1 < w1.heap.size + 1 := by omega
      have n1 : w.heap.size + 1 + 1 + 1 + 1 + 1 ≠ w1.heap.size := by omega
      have n2 : w.heap.size + 1 + 1 + 1 + 1 + 1 ≠ w1.heap.size + 1 := by omega
      have n3 := Ne.symm n1
      have n4 := Ne.symm n2
      have M1 := Lib.hid (clip_mid 0 1 ax ay 1 1 bx by_ H1.out B1.out)
      have M2 := Lib.hid (clip_mid 1 1 bx by_ 0 1 ax ay H1.out B1.out)
      have D1 := Lib.hid (show w.heap.size + 1 + 1 + 1 + 1 + 1 + 1 ≤ w1.heap.size ∧ w.heap.size + 1 + 1 + 1 + 1 + 1 + 1 ≤ w1.heap.size + 1 ∧ w1.heap.size ≠ w1.heap.size + 1 by omega)
      have D2 := Lib.hid (show w.heap.size + 1 + 1 + 1 + 1 + 1 + 1 ≤ w1.heap.size + 1 ∧ w.heap.size + 1 + 1 + 1 + 1 + 1 + 1 ≤ w1.heap.size ∧ w1.heap.size + 1 ≠ w1.heap.size by omega)
      clear x0' x1' x2' x3' r0 r1 yr s0 s1 ys H1 B1
      go_region
      all_goals
        go_wp2
        go_meet
        first
          | exact ⟨_, _, rfl, rfl, Lib.hid ⟨M1.out.1, M1.out.2.1, M1.out.2.2.1⟩, Lib.hid M1.out.2.2.2, D1⟩
          | exact ⟨_, _, rfl, rfl, Lib.hid ⟨M2.out.1, M2.out.2.2.1, M2.out.2.1⟩, Lib.hid M2.out.2.2.2, D2⟩
    case rest =>
    clear c0 c1 c2 c3 x0' x1' x2' x3' r0 r1 yr s0 s1 ys b0 yb H1 B1
    obtain ⟨g, g', rfl, rfl, HL, HC, HD⟩ := hcut
    have hk : Hid (HKs (w.heap.size + 1 + 1 + 1 + 1 + 1) (w.heap.size + 1 + 1 + 1 + 1 + 1) g g' w.heap.size (w.heap.size + 1)) := Lib.hid (by have h := HD.out; exact ⟨by omega, by omega, by omega, by omega, by omega, by omega, by omega, by omega⟩)
    clear HD
    have hna := HB.out.1
    have hnb := HB.out.2
    unfold Nr at hna hnb
    have LX := Lib.hid (fun v h => limX_any (St0 ax ay bx by_) ax ay bx by_ ax (bx - ax) x0 x1 (w.heap.size + 1 + 1 + 1 + 1 + 1) g g' w.heap.size (w.heap.size + 1) (w.heap.size + 1 + 1 + 1 + 1 + 1) v (by omega) (by omega) I1.out I3.out st0_sb hk.out h)
    have SX := Lib.hid (lim_sb (S := St0 ax ay bx by_) (s := ax) (w := bx - ax) (f := x0) (t := x1) (px := fun v => v) (py := fun v => atV ax ay bx by_ v) st0_sb (by omega) (by omega))
    generalize hS1 : lim (St0 ax ay bx by_) ax (bx - ax) x0 x1 (fun v => v) (fun v => atV ax ay bx by_ v) = S1 at *
    clear hS1
    have LY := Lib.hid (fun v h => limY_any S1 ax ay bx by_ ay (by_ - ay) y0 y1 (w.heap.size + 1 + 1 + 1 + 1 + 1) g g' w.heap.size (w.heap.size + 1) (w.heap.size + 1 + 1 + 1 + 1 + 1) v (by omega) (by omega) I2.out I4.out SX.out hk.out h)
    have SY := Lib.hid (lim_sb (f := y0) (t := y1) (px := fun v => atV ay ax by_ bx v) (py := fun v => v) SX.out (show -2097152 ≤ ay ∧ ay ≤ 2097152 by omega) (show -4194304 ≤ by_ - ay ∧ by_ - ay ≤ 4194304 by omega))
    rw [← HS.out] at LY SY
    clear HS SX I1 I2 I3 I4 HB
    obtain ⟨⟨c0, c1, -⟩, ⟨c2, c3, -⟩, ⟨x0', x1', x2', x3', -⟩, ⟨r0, r1, yr⟩, ⟨s0, s1, ys⟩, -⟩ := HC.out
    go_wp2_with fail
    refine (LX.out _ (lw_start HC.out HL.out)).mono ?_
    rintro e w2 ⟨rfl, hl, hb⟩
    have HC2 := Lib.hid (HC.out.keep hb)
    have HL2 := Lib.hid hl
    clear hl hb HC HL LX c0 c1 c2 c3 x0' x1' x2' x3' r0 r1 yr s0 s1 ys
    obtain ⟨⟨c0, c1, -⟩, ⟨c2, c3, -⟩, ⟨x0', x1', x2', x3', -⟩, ⟨r0, r1, yr⟩, ⟨s0, s1, ys⟩, -⟩ := HC2.out
    go_wp2_with fail
    refine (LY.out _ (lw_start HC2.out HL2.out)).mono ?_
    rintro e w3 ⟨rfl, hl, hb⟩
    have HC3 := Lib.hid (HC2.out.keep hb)
    have HL3 := Lib.hid hl
    clear hl hb HC2 HL2 LY c0 c1 c2 c3 x0' x1' x2' x3' r0 r1 yr s0 s1 ys hna hnb
    obtain ⟨⟨c0, c1, -⟩, ⟨c2, c3, -⟩, ⟨x0', x1', x2', x3', -⟩, ⟨r0, r1, yr⟩, ⟨s0, s1, ys⟩, -⟩ := HC3.out
    obtain ⟨⟨o0, yo⟩, ⟨f0, f1, f2, f3, -⟩, ⟨e0, e1, e2, e3, -⟩⟩ := HL3.out
    cases hok : S.ok
    · have ho : o = false := by rw [ho.out]; unfold stO; rw [hok]; rfl
      subst ho
      rw [hok] at o0
      obtain ⟨⟨k0, k1, -⟩, ⟨k2, k3, -⟩, ⟨k4, -⟩, k5⟩ := clip_end HC3.out HL3.out.1 0 0 0 0 false
      clear hok HC3 HL3 SY
      go_wp2
      exact bodyPost_ret (v := .tuple #[.agg #[.int .i64 0, .int .i64 0], .agg #[.int .i64 0, .int .i64 0], .bool false]) (by simp [results, Try.results12, go_sem, k0, k1, k2, k3, k4]) rfl ⟨rfl, k5⟩
    · rw [hok] at o0
      have LS := Lib.hid (fun v => less_any S.n2 S.d2 S.x2 S.y2 S.n1 S.d1 S.x1 S.y1 v SY.out.2.2.1 SY.out.2.2.2 SY.out.1 SY.out.2.1)
      have hlt : o = !decide (S.n2 * S.d1 < S.n1 * S.d2) := by rw [ho.out]; unfold stO; rw [hok]; rfl
      clear ho SY hok
      go_wp2_with fail
      refine (LS.out _).mono ?_
      rintro e w4 ⟨rfl, hb⟩
      have HC4 := Lib.hid (HC3.out.later (by have := cell_lt c0; omega) hb)
      have HL4 := Lib.hid (HL3.out.later hb)
      clear hb HC3 HL3 LS c0 c1 c2 c3 x0' x1' x2' x3' r0 r1 yr s0 s1 ys o0 yo f0 f1 f2 f3 e0 e1 e2 e3
      obtain ⟨⟨c0, c1, -⟩, ⟨c2, c3, -⟩, ⟨x0', x1', x2', x3', -⟩, ⟨r0, r1, yr⟩, ⟨s0, s1, ys⟩, -⟩ := HC4.out
      obtain ⟨⟨o0, yo⟩, ⟨f0, f1, f2, f3, -⟩, ⟨e0, e1, e2, e3, -⟩⟩ := HL4.out
      cases hd : decide (S.n2 * S.d1 < S.n1 * S.d2)
      · have ho : o = true := by rw [hlt, hd]; rfl
        subst ho
        obtain ⟨⟨k0, k1, -⟩, ⟨k2, k3, -⟩, ⟨k4, -⟩, k5⟩ := clip_end HC4.out HL4.out.1 S.x1 S.y1 S.x2 S.y2 true
        clear hlt hd HC4 HL4
        have q1 : g ≠ w.heap.size + 1 + 1 + 1 := by have h := hk.out; unfold HKs at h; omega
        have q2 : g' ≠ w.heap.size + 1 + 1 + 1 := by have h := hk.out; unfold HKs at h; omega
        have q3 := Ne.symm q1
        have q4 := Ne.symm q2
        clear hk c0 c1 c2 c3 x0' x1' x2' x3'
        go_wp2_with fail
        go_region
        all_goals
          go_wp2
          exact bodyPost_ret (v := .tuple #[.agg #[.int .i64 S.x1, .int .i64 S.y1], .agg #[.int .i64 S.x2, .int .i64 S.y2], .bool true]) (by simp [results, Try.results12, go_sem, k0, k1, k2, k3, k4]) rfl ⟨rfl, below_drew k5⟩
      · have ho : o = false := by rw [hlt, hd]; rfl
        subst ho
        obtain ⟨⟨k0, k1, -⟩, ⟨k2, k3, -⟩, ⟨k4, -⟩, k5⟩ := clip_end HC4.out HL4.out.1 0 0 0 0 false
        clear hlt hd HC4 HL4
        go_wp2
        exact bodyPost_ret (v := .tuple #[.agg #[.int .i64 0, .int .i64 0], .agg #[.int .i64 0, .int .i64 0], .bool false]) (by simp [results, Try.results12, go_sem, k0, k1, k2, k3, k4]) rfl ⟨rfl, k5⟩
end Go.Proofs.Ytpdiojndfckmfaa
