/- GeomRigid: moved, turned, five points in boxes, boxes out of blocks. -/
import Derived.Test.YtkojdifgmppfpaaGeoN
import Derived.Test.YtkojdifgmppfpaaGeoPlainM
import Derived.Test.YtkojdifgmppfpaaFree
namespace Go.Proofs.Ytkojdifgmppfpaa
open Go.RowKit
open Num Geo
set_option linter.unusedVariables false
/-- a coordinate in the law's range -/
def Rn (x y : Int) : Prop := -1048576 ≤ x ∧ x ≤ 1048576 ∧ -1048576 ≤ y ∧ y ≤ 1048576
theorem moved_any (ax ay ux uy : Int) (w : World) (ha : Rn ax ay) (hu : Rn ux uy) :
    Calls Try.prog 30 #[.agg #[.int .i64 ax, .int .i64 ay], .agg #[.int .i64 ux, .int .i64 uy]] w fun e w' => e = .returned (.agg #[.int .i64 (ax + ux), .int .i64 (ay + uy)]) ∧ Below w.heap.size w w' := by
  unfold Rn at ha hu
  obtain ⟨a1, a2, a3, a4⟩ := ha
  obtain ⟨u1, u2, u3, u4⟩ := hu
  go_enter Try.func30, Try.ntmps30
  go_wp2_with fail
  refine (pt_any (ax + ux) (ay + uy) _).mono ?_
  rintro e w1 ⟨rfl, hb⟩
  have HZ : Hid (Bx w1 (w.heap.size + 1 + 1) 0 0 ∧ Below w.heap.size w w1) := by
    apply Lib.hid
    have e2 : ((w.alloc (.cells #[.int .i64 ax, .int .i64 ay] 23)).alloc (.cells #[.int .i64 ux, .int .i64 uy] 23)).heap.size = w.heap.size + 1 + 1 := by simp
    refine ⟨?_, below_on (below_on (below_on (below_al w _) (below_al _ _)) (below_al _ _)) hb⟩
    rw [← e2]; exact (Bx.new _ 0 0 _).later hb
  clear hb
  obtain ⟨⟨z0, z1, z2⟩, -⟩ := HZ.out
  go_wp2
  have k := HZ.out.1.same (ax + ux) (ay + uy)
  obtain ⟨k0, k1, k2⟩ := k
  exact bodyPost_ret (v := .agg #[.int .i64 (ax + ux), .int .i64 (ay + uy)]) (by simp [results, Try.results30, go_sem, k0, k1]) rfl ⟨rfl, (HZ.out.2.setCell (show w.heap.size ≤ w.heap.size + 1 + 1 by omega) _).setCell (show w.heap.size ≤ w.heap.size + 1 + 1 by omega) _⟩
theorem turned_any (ax ay : Int) (w : World) (ha : Rn ax ay) :
    Calls Try.prog 31 #[.agg #[.int .i64 ax, .int .i64 ay]] w fun e w' => e = .returned (.agg #[.int .i64 (-ay), .int .i64 ax]) ∧ Below w.heap.size w w' := by
  unfold Rn at ha
  obtain ⟨a1, a2, a3, a4⟩ := ha
  go_enter Try.func31, Try.ntmps31
  go_wp2_with fail
  refine (pt_any (-ay) ax _).mono ?_
  rintro e w1 ⟨rfl, hb⟩
  have HZ : Hid (Bx w1 (w.heap.size + 1) 0 0 ∧ Below w.heap.size w w1) := by
    apply Lib.hid
    have e2 : (w.alloc (.cells #[.int .i64 ax, .int .i64 ay] 23)).heap.size = w.heap.size + 1 := by simp
    refine ⟨?_, below_on (below_on (below_al w _) (below_al _ _)) hb⟩
    rw [← e2]; exact (Bx.new _ 0 0 _).later hb
  clear hb
  obtain ⟨⟨z0, z1, z2⟩, -⟩ := HZ.out
  go_wp2
  have k := HZ.out.1.same (-ay) ax
  obtain ⟨k0, k1, k2⟩ := k
  exact bodyPost_ret (v := .agg #[.int .i64 (-ay), .int .i64 ax]) (by simp [results, Try.results31, go_sem, k0, k1]) rfl ⟨rfl, (HZ.out.2.setCell (show w.heap.size ≤ w.heap.size + 1 by omega) _).setCell (show w.heap.size ≤ w.heap.size + 1 by omega) _⟩
def Has5 (w v : World) (ax ay bx by_ cx cy dx dy ux uy : Int) : Prop := Has4 w v ax ay bx by_ cx cy dx dy ∧ v.cell? ⟨w.heap.size + 1 + 1 + 1 + 1, 0, none⟩ = some (.int .i64 ux) ∧ v.cell? ⟨w.heap.size + 1 + 1 + 1 + 1, 1, none⟩ = some (.int .i64 uy)
theorem Has5.later {w v u : World} {ax ay bx by_ cx cy dx dy ux uy : Int} (h : Has5 w v ax ay bx by_ cx cy dx dy ux uy) (hb : Below v.heap.size v u) : Has5 w u ax ay bx by_ cx cy dx dy ux uy :=
  ⟨h.1.later hb, cell_on h.2.1 hb, cell_on h.2.2 hb⟩
def B5 (w : World) (ax ay bx by_ cx cy dx dy ux uy : Int) : World := (B4 w ax ay bx by_ cx cy dx dy).alloc (.cells #[.int .i64 ux, .int .i64 uy] 23)
theorem B5_has (w : World) (ax ay bx by_ cx cy dx dy ux uy : Int) : Has5 w (B5 w ax ay bx by_ cx cy dx dy ux uy) ax ay bx by_ cx cy dx dy ux uy := by
  refine ⟨(B4_has w ax ay bx by_ cx cy dx dy).later (below_al _ _), ?_, ?_⟩
  · rw [← B4_size w ax ay bx by_ cx cy dx dy]; exact (cell_new2 _).1
  · rw [← B4_size w ax ay bx by_ cx cy dx dy]; exact (cell_new2 _).2
theorem B5_size (w : World) (ax ay bx by_ cx cy dx dy ux uy : Int) : (B5 w ax ay bx by_ cx cy dx dy ux uy).heap.size = w.heap.size + 1 + 1 + 1 + 1 + 1 := by unfold B5; simp [B4_size]
theorem Bx.of_block {w : World} {g : Nat} {x y : Int} {t : TypeId} (h : w.heap[g]? = some (.cells #[.int .i64 x, .int .i64 y] t (0, 0))) : Bx w g x y := by
  refine ⟨?_, ?_, fun o => ?_⟩ <;> simp [World.cell?, World.frozen?, h]
/-- storing into a box that is none of the points' -/
theorem Has5.set {w v : World} {ax ay bx by_ cx cy dx dy ux uy : Int} (h : Has5 w v ax ay bx by_ cx cy dx dy ux uy) {g : Nat} (hg : w.heap.size + 1 + 1 + 1 + 1 < g) (o : Nat) (z : Value) : Has5 w (v.setCell ⟨g, o, none⟩ z) ax ay bx by_ cx cy dx dy ux uy := by
  have n : ∀ (k i : Nat), k < g → (⟨g, o, none⟩ : Addr) ≠ ⟨k, i, none⟩ := by intro k i hk hx; injection hx with h1 h2; omega
  obtain ⟨⟨h0, h1, h2, h3, h4, h5, h6, h7, gB⟩, h8, h9⟩ := h
  refine ⟨⟨?_, ?_, ?_, ?_, ?_, ?_, ?_, ?_, gB.setCell (show w.heap.size ≤ g by omega) _⟩, ?_, ?_⟩ <;> (rw [World.cell?_setCell_other _ _ _ _ (n _ _ (by omega))]; assumption)
theorem alloc_frac : ∀ o : Oper, o.op = .alloc 32 → ∀ (a : Act) (v : World), (execOp a.eval o).run Try.prog v = .ok (.value (.pointer (some ⟨v.heap.size, 0, none⟩))) (v.alloc (.cells #[.int .i64 0, .int .i64 0] 32)) := by
  intro o ho a v
  simp [execOp, ho, go_sem]
theorem alloc_pt : ∀ o : Oper, o.op = .alloc 23 → ∀ (a : Act) (v : World), (execOp a.eval o).run Try.prog v = .ok (.value (.pointer (some ⟨v.heap.size, 0, none⟩))) (v.alloc (.cells #[.int .i64 0, .int .i64 0] 23)) := by
  intro o ho a v
  simp [execOp, ho, go_sem]
theorem bx_other {v : World} {b c : Nat} {x y s t : Int} (h : Bx v b x y) (hn : b ≠ c) : Bx ((v.setCell ⟨c, 0, none⟩ (.int .i64 s)).setCell ⟨c, 1, none⟩ (.int .i64 t)) b x y := (h.other hn _).other hn _
/-- five points, a fraction and four points in boxes of their own -/
def R4 (w v : World) (ax ay bx by_ cx cy dx dy ux uy : Int) (g p1 p2 p3 p4 : Nat) (fn fd x1 y1 x2 y2 x3 y3 x4 y4 : Int) : Prop :=
  Has5 w v ax ay bx by_ cx cy dx dy ux uy ∧ Bx v g fn fd ∧ Bx v p1 x1 y1 ∧ Bx v p2 x2 y2 ∧ Bx v p3 x3 y3 ∧ Bx v p4 x4 y4 ∧ w.heap.size + 1 + 1 + 1 + 1 < p1 ∧ w.heap.size + 1 + 1 + 1 + 1 < p2 ∧ w.heap.size + 1 + 1 + 1 + 1 < p3 ∧ w.heap.size + 1 + 1 + 1 + 1 < p4 ∧
  g ≠ p1 ∧ g ≠ p2 ∧ g ≠ p3 ∧ g ≠ p4 ∧ p1 ≠ p2 ∧ p1 ≠ p3 ∧ p1 ≠ p4 ∧ p2 ≠ p3 ∧ p2 ≠ p4 ∧ p3 ≠ p4
theorem R4.later {w v u : World} {ax ay bx by_ cx cy dx dy ux uy : Int} {g p1 p2 p3 p4 : Nat} {fn fd x1 y1 x2 y2 x3 y3 x4 y4 : Int} (h : R4 w v ax ay bx by_ cx cy dx dy ux uy g p1 p2 p3 p4 fn fd x1 y1 x2 y2 x3 y3 x4 y4) (hb : Below v.heap.size v u) :
    R4 w u ax ay bx by_ cx cy dx dy ux uy g p1 p2 p3 p4 fn fd x1 y1 x2 y2 x3 y3 x4 y4 :=
  ⟨h.1.later hb, h.2.1.later hb, h.2.2.1.later hb, h.2.2.2.1.later hb, h.2.2.2.2.1.later hb, h.2.2.2.2.2.1.later hb, h.2.2.2.2.2.2⟩
theorem R4.store {w v : World} {ax ay bx by_ cx cy dx dy ux uy : Int} {g p1 p2 p3 p4 : Nat} {fn fd x1 y1 x2 y2 x3 y3 x4 y4 : Int} (h : R4 w v ax ay bx by_ cx cy dx dy ux uy g p1 p2 p3 p4 fn fd x1 y1 x2 y2 x3 y3 x4 y4) (a1 b1 a2 b2 a3 b3 a4 b4 : Int) :
    R4 w ((((((((v.setCell ⟨p1, 0, none⟩ (.int .i64 a1)).setCell ⟨p1, 1, none⟩ (.int .i64 b1)).setCell ⟨p2, 0, none⟩ (.int .i64 a2)).setCell ⟨p2, 1, none⟩ (.int .i64 b2)).setCell ⟨p3, 0, none⟩ (.int .i64 a3)).setCell ⟨p3, 1, none⟩ (.int .i64 b3)).setCell ⟨p4, 0, none⟩ (.int .i64 a4)).setCell ⟨p4, 1, none⟩ (.int .i64 b4))
      ax ay bx by_ cx cy dx dy ux uy g p1 p2 p3 p4 fn fd a1 b1 a2 b2 a3 b3 a4 b4 := by
  obtain ⟨h0, hg, h1, h2, h3, h4, l1, l2, l3, l4, e1, e2, e3, e4, d1, d2, d3, d4, d5, d6⟩ := h
  refine ⟨?_, ?_, ?_, ?_, ?_, ?_, l1, l2, l3, l4, e1, e2, e3, e4, d1, d2, d3, d4, d5, d6⟩
  · exact (((((((h0.set l1 _ _).set l1 _ _).set l2 _ _).set l2 _ _).set l3 _ _).set l3 _ _).set l4 _ _).set l4 _ _
  · exact bx_other (bx_other (bx_other (bx_other hg e1) e2) e3) e4
  · exact bx_other (bx_other (bx_other (h1.same a1 b1) d1) d2) d3
  · exact bx_other (bx_other ((bx_other h2 (Ne.symm d1)).same a2 b2) d4) d5
  · exact bx_other ((bx_other (bx_other h3 (Ne.symm d2)) (Ne.symm d4)).same a3 b3) d6
  · exact (bx_other (bx_other (bx_other h4 (Ne.symm d3)) (Ne.symm d5)) (Ne.symm d6)).same a4 b4
end Go.Proofs.Ytkojdifgmppfpaa
