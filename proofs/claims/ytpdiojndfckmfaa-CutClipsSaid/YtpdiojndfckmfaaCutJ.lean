/- The contracts of Path's two closures. (printed by mkadd.py) -/
import Derived.Test.YtpdiojndfckmfaaCutI
namespace Go.Proofs.Ytpdiojndfckmfaa
open Go.RowKit
open Num Geo Cut
set_option linter.unusedVariables false

set_option maxRecDepth 100000 in
set_option maxHeartbeats 4000000 in
theorem addE_any (x y : Int) (fin : List (Value × List (Int × Int))) (va vo : Value) (pb base kp kq B : Nat) (w : World) (hB : B ≤ kp) (hp : PS w base kp kq [] fin va vo pb) :
    Calls Try.prog 46 #[.agg #[.int .i64 x, .int .i64 y], .pointer (some ⟨kp, 0, none⟩)] w fun e w' => e = .returned (.tuple #[]) ∧ ∃ v', PS w' base kp kq ([] ++ [(x, y)]) fin v' vo pb ∧ Below B w w' ∧ w.heap.size ≤ w'.heap.size ∧ ∀ k, k < w.heap.size → k ≠ kp → some k ≠ va.ownBlock → w'.heap[k]? = w.heap[k]? := by
  obtain ⟨i0, hi, hz0, hz1, hz2⟩ := info_parts Try.infoPt
  have H0 := Lib.hid hp
  clear hp
  have hkb : kp < base := H0.out.1
  have hbp : base ≤ pb := H0.out.2.2.2.1
  have cP := cell_of_one H0.out.2.2.2.2.2.1
  have lP := lt_of_block H0.out.2.2.2.2.2.1
  obtain ⟨a, cap, rfl⟩ : ∃ a cap, va = .slice a 0 cap := own_slice H0.out.2.2.2.2.2.2.2.1
  have HL : Hid (([] : List (Int × Int)).length = 0) := Lib.hid rfl
  go_enter Try.func46, Try.ntmps46
  go_wp2_with fail
  have H1 := Lib.hid (H0.out.later (below_al w (.cells #[.int .i64 x, .int .i64 y] 23)))
  have G1 := Lib.hid ((below_al w (.cells #[.int .i64 x, .int .i64 y] 23)).mono (show B ≤ w.heap.size by omega))
  obtain ⟨p0, p1, -⟩ := Bx.new w x y 23
  have X1 := Lib.hid (below_al w (.cells #[.int .i64 x, .int .i64 y] 23))
  have cP1 := cell_al cP (.cells #[.int .i64 x, .int .i64 y] 23)
  generalize hw1 : w.alloc (.cells #[.int .i64 x, .int .i64 y] 23) = w1 at *
  clear hw1
  generalize hnb : w.heap.size = nb at *
  have K0 := fun k : Later w1 => k.cell cP1
  have K1 := fun k : Later w1 => k.cell p0
  have K2 := fun k : Later w1 => k.cell p1
  refine region_later (by kernel_rfl) (by kernel_rfl) ?_
  (go_big_quiet_want; go_big_quiet_op; go_big_quiet_on)
  (go_big_quiet_want; go_big_quiet_op; go_big_quiet_on)
  (go_big_quiet_want; go_big_quiet_op; go_big_quiet_on)
  (go_big_quiet_want; go_big_quiet_op; go_big_quiet_on)
  go_big_quiet_skip
  go_big_quiet_skip
  go_big_quiet_skip
  go_big_quiet_skip
  go_big_quiet_skip
  go_big_quiet_skip
  go_big_quiet_skip
  go_big_quiet_skip
  (go_big_quiet_want; go_big_quiet_op; go_big_quiet_on)
  refine wpQuiet_nil ?_
  refine later_end ?_
  intro k
  have H2 := Lib.hid (H1.out.later k.below)
  have G2 := Lib.hid (G1.out.trans (k.below.mono (by have := G1.out.size; omega)))
  have X2 := Lib.hid (X1.out.trans (k.below.mono (by have := X1.out.size; omega)))
  have cP2 := K0 k
  have p02 := K1 k
  have p12 := K2 k
  clear H1 G1 K0 K1 K2 cP1 p0 p1
  generalize k.wd = w2 at *
  clear k
  have lP2 := cell_lt cP2
  have lx2 := cell_lt p02
  have OW0 := H2.out.2.2.2.2.2.2.2.1
  rw [HL.out] at OW0
  have OW := Lib.hid OW0
  clear OW0
  go_wp2_with (at_builtin; refine wpList_append_own _ rfl _ _ 45 rfl pb 23 i0 (.agg #[.int .i64 0, .int .i64 0]) 2 16 Try.underlying45 hi hz0 hz1 hz2 rfl (by decide) _ _ _ rfl (OW.out.alloc _) ⟨w2.heap.size, 0, none⟩ 1 1 [.int .i64 x, .int .i64 y] rfl rfl ?c1 ?c2 ?c3 ?c4 ?c5 ?_)
  case c1 =>
    intro j u hj
    match j, hj with
    | 0, hj => simp at hj; subst hj; simp [Addr.add]
    | 1, hj => simp at hj; subst hj; simp [Addr.add]
  case c2 => intro u hu; simp at hu; rcases hu with rfl | rfl <;> rfl
  case c3 => have := HL.out; unfold maxLen; omega
  case c4 => have := HL.out; omega
  case c5 => simp; have := H2.out.2.2.2.2.1; omega
  intro v' w4 hown hgrow _
  obtain ⟨a', cap', rfl⟩ := own_slice hown
  have hb2 : B ≤ w2.heap.size := by omega
  have H3 := Lib.hid (H2.out.later (below_al w2 (.cells #[.int .i64 x, .int .i64 y] 23)))
  have G3 := Lib.hid (G2.out.trans ((below_al w2 (.cells #[.int .i64 x, .int .i64 y] 23)).mono hb2))
  have hv : ∀ k, k < pb → some k ≠ Value.ownBlock (.slice a 0 cap) := fun k hk e => by have := (OW.out.lt k e.symm).1; omega
  have F1 := Lib.hid (H3.out.push hgrow (part' := [] ++ [(x, y)]) (by rw [pcs_snoc, List.length_append, HL.out]; exact hown))
  have F2 := Lib.hid ((G3.out.grown hgrow (by simp; omega) (fun k hk => by have h1 := (OW.out.lt k hk).1; omega)).setCell (p := ⟨kp, 0, none⟩) hB (.slice a' (0 + 1) cap'))
  have hws : w.heap.size ≤ w2.heap.size := X2.out.size
  have hgs := hgrow.size
  have F3 : Hid (w.heap.size ≤ (w4.setCell ⟨kp, 0, none⟩ (.slice a' (0 + 1) cap')).heap.size) := Lib.hid (by simp at hgs ⊢; omega)
  have F4 : Hid (∀ k, k < w.heap.size → k ≠ kp → some k ≠ Value.ownBlock (.slice a 0 cap) → (w4.setCell ⟨kp, 0, none⟩ (.slice a' (0 + 1) cap')).heap[k]? = w.heap[k]?) := Lib.hid (fun k h1 h2 h3 => by
    rw [Below.heap_setCell _ _ _ _ (by show k ≠ kp; exact h2)]
    exact (hgrow.block k (by simp; omega) h3).trans (((below_al w2 (.cells #[.int .i64 x, .int .i64 y] 23)).block k (by omega)).trans (X2.out.block k (by omega))))
  have hblk := (hgrow.block kp (by simp; omega) (hv kp (by omega))).trans ((below_al w2 (.cells #[.int .i64 x, .int .i64 y] 23)).block kp lP2)
  have cP4 : w4.cell? ⟨kp, 0, none⟩ = some (.slice a 0 cap) := (World.cell?_of_block (a := ⟨kp, 0, none⟩) hblk).trans cP2
  have fP4 : w4.frozen? ⟨kp, 0, none⟩ = false := (World.frozen?_of_block (a := ⟨kp, 0, none⟩) hblk).trans (free_of_one H2.out.2.2.2.2.2.1)
  clear hblk hown hgrow hv OW H2 H3 G2 G3 X1 X2 hws hgs cP2 lP2 p02 p12 lx2
  go_wp2
  go_end0
  exact ⟨rfl, _, F1.out, F2.out, F3.out, F4.out⟩
set_option maxRecDepth 100000 in
set_option maxHeartbeats 4000000 in
theorem addX_any (x y : Int) (qx qy : Int) (l : List (Int × Int)) (fin : List (Value × List (Int × Int))) (va vo : Value) (pb base kp kq B : Nat) (w : World) (hB : B ≤ kp) (hp : PS w base kp kq (l ++ [(qx, qy)]) fin va vo pb) (hne : ¬ qx = x) (hl : l.length ≤ 100) :
    Calls Try.prog 46 #[.agg #[.int .i64 x, .int .i64 y], .pointer (some ⟨kp, 0, none⟩)] w fun e w' => e = .returned (.tuple #[]) ∧ ∃ v', PS w' base kp kq ((l ++ [(qx, qy)]) ++ [(x, y)]) fin v' vo pb ∧ Below B w w' ∧ w.heap.size ≤ w'.heap.size ∧ ∀ k, k < w.heap.size → k ≠ kp → some k ≠ va.ownBlock → w'.heap[k]? = w.heap[k]? := by
  obtain ⟨i0, hi, hz0, hz1, hz2⟩ := info_parts Try.infoPt
  have H0 := Lib.hid hp
  clear hp
  have hkb : kp < base := H0.out.1
  have hbp : base ≤ pb := H0.out.2.2.2.1
  have cP := cell_of_one H0.out.2.2.2.2.2.1
  have lP := lt_of_block H0.out.2.2.2.2.2.1
  obtain ⟨g, cap, rfl, -, hgl⟩ := own_some H0.out.2.2.2.2.2.2.2.1 (by simp)
  have HL : Hid ((l ++ [(qx, qy)]).length = l.length + 1) := Lib.hid (by simp)
  have hcell := H0.out.2.2.2.2.2.2.2.1.cells (g := g) rfl
  have e : pcs (l ++ [(qx, qy)]) = pcs l ++ [.int .i64 qx, .int .i64 qy] := pcs_snoc l (qx, qy)
  have hx := hcell (l.length * 2) (.int .i64 qx) (by rw [e, List.getElem?_append_right (by rw [pcs_len]; exact Nat.le_refl _), pcs_len]; simp)
  have hy := hcell (l.length * 2 + 1) (.int .i64 qy) (by rw [e, List.getElem?_append_right (by rw [pcs_len]; omega), pcs_len]; simp)
  rw [Addr.add_lit, Nat.zero_add] at hx hy
  clear hcell e
  rw [HL.out] at cP
  generalize l.length = n at *
  go_enter Try.func46, Try.ntmps46
  go_wp2_with fail
  have H1 := Lib.hid (H0.out.later (below_al w (.cells #[.int .i64 x, .int .i64 y] 23)))
  have G1 := Lib.hid ((below_al w (.cells #[.int .i64 x, .int .i64 y] 23)).mono (show B ≤ w.heap.size by omega))
  obtain ⟨p0, p1, -⟩ := Bx.new w x y 23
  have X1 := Lib.hid (below_al w (.cells #[.int .i64 x, .int .i64 y] 23))
  have cP1 := cell_al cP (.cells #[.int .i64 x, .int .i64 y] 23)
  have hx1 := cell_al hx (.cells #[.int .i64 x, .int .i64 y] 23)
  have hy1 := cell_al hy (.cells #[.int .i64 x, .int .i64 y] 23)
  generalize hw1 : w.alloc (.cells #[.int .i64 x, .int .i64 y] 23) = w1 at *
  clear hw1
  generalize hnb : w.heap.size = nb at *
  have K0 := fun k : Later w1 => k.cell cP1
  have K1 := fun k : Later w1 => k.cell p0
  have K2 := fun k : Later w1 => k.cell p1
  have K3 := fun k : Later w1 => k.cell hx1
  have K4 := fun k : Later w1 => k.cell hy1
  have hq1 : (((n : Int) + 1) == 0) = false := by simp; omega
  have q1 : (0 : Int) ≤ (n : Int) := by omega
  have q2 : (n : Int) < (n : Int) + 1 := by omega
  refine region_later (by kernel_rfl) (by kernel_rfl) ?_
  (go_big_quiet_want; go_big_quiet_op; go_big_quiet_on)
  (go_big_quiet_want; go_big_quiet_op; go_big_quiet_on)
  (go_big_quiet_want; go_big_quiet_op; go_big_quiet_on)
  (go_big_quiet_want; go_big_quiet_op; go_big_quiet_on)
  (go_big_quiet_want; go_big_quiet_op; go_big_quiet_on)
  (go_big_quiet_want; go_big_quiet_op; go_big_quiet_on)
  (go_big_quiet_want; go_big_quiet_op; go_big_quiet_on)
  (go_big_quiet_want; go_big_quiet_op; go_big_quiet_on)
  (go_big_quiet_want; go_big_quiet_op; go_big_quiet_on)
  (go_big_quiet_want; go_big_quiet_op; go_big_quiet_on)
  (go_big_quiet_want; go_big_quiet_op; go_big_quiet_on)
  (go_big_quiet_want; go_big_quiet_op; go_big_quiet_on)
  (go_big_quiet_want; go_big_quiet_op; go_big_quiet_on)
  refine wpQuiet_nil ?_
  refine later_end ?_
  intro k
  have H2 := Lib.hid (H1.out.later k.below)
  have G2 := Lib.hid (G1.out.trans (k.below.mono (by have := G1.out.size; omega)))
  have X2 := Lib.hid (X1.out.trans (k.below.mono (by have := X1.out.size; omega)))
  have cP2 := K0 k
  have p02 := K1 k
  have p12 := K2 k
  clear H1 G1 K0 K1 K2 cP1 p0 p1 K3 K4 hx1 hy1
  generalize k.wd = w2 at *
  clear k
  have lP2 := cell_lt cP2
  have lx2 := cell_lt p02
  have OW0 := H2.out.2.2.2.2.2.2.2.1
  rw [HL.out] at OW0
  have OW := Lib.hid OW0
  clear OW0
  go_wp2_with (at_builtin; refine wpList_append_own _ rfl _ _ 45 rfl pb 23 i0 (.agg #[.int .i64 0, .int .i64 0]) 2 16 Try.underlying45 hi hz0 hz1 hz2 rfl (by decide) _ _ _ rfl (OW.out.alloc _) ⟨w2.heap.size, 0, none⟩ 1 1 [.int .i64 x, .int .i64 y] rfl rfl ?c1 ?c2 ?c3 ?c4 ?c5 ?_)
  case c1 =>
    intro j u hj
    match j, hj with
    | 0, hj => simp at hj; subst hj; simp [Addr.add]
    | 1, hj => simp at hj; subst hj; simp [Addr.add]
  case c2 => intro u hu; simp at hu; rcases hu with rfl | rfl <;> rfl
  case c3 => have := HL.out; unfold maxLen; omega
  case c4 => have := HL.out; omega
  case c5 => simp; have := H2.out.2.2.2.2.1; omega
  intro v' w4 hown hgrow _
  obtain ⟨a', cap', rfl⟩ := own_slice hown
  have hb2 : B ≤ w2.heap.size := by omega
  have H3 := Lib.hid (H2.out.later (below_al w2 (.cells #[.int .i64 x, .int .i64 y] 23)))
  have G3 := Lib.hid (G2.out.trans ((below_al w2 (.cells #[.int .i64 x, .int .i64 y] 23)).mono hb2))
  have hv : ∀ k, k < pb → some k ≠ Value.ownBlock (.slice (some ⟨g, 0, none⟩) (n + 1) cap) := fun k hk e => by have := (OW.out.lt k e.symm).1; omega
  have F1 := Lib.hid (H3.out.push hgrow (part' := (l ++ [(qx, qy)]) ++ [(x, y)]) (by rw [pcs_snoc, List.length_append, HL.out]; exact hown))
  have F2 := Lib.hid ((G3.out.grown hgrow (by simp; omega) (fun k hk => by have h1 := (OW.out.lt k hk).1; omega)).setCell (p := ⟨kp, 0, none⟩) hB (.slice a' (n + 1 + 1) cap'))
  have hws : w.heap.size ≤ w2.heap.size := X2.out.size
  have hgs := hgrow.size
  have F3 : Hid (w.heap.size ≤ (w4.setCell ⟨kp, 0, none⟩ (.slice a' (n + 1 + 1) cap')).heap.size) := Lib.hid (by simp at hgs ⊢; omega)
  have F4 : Hid (∀ k, k < w.heap.size → k ≠ kp → some k ≠ Value.ownBlock (.slice (some ⟨g, 0, none⟩) (n + 1) cap) → (w4.setCell ⟨kp, 0, none⟩ (.slice a' (n + 1 + 1) cap')).heap[k]? = w.heap[k]?) := Lib.hid (fun k h1 h2 h3 => by
    rw [Below.heap_setCell _ _ _ _ (by show k ≠ kp; exact h2)]
    exact (hgrow.block k (by simp; omega) h3).trans (((below_al w2 (.cells #[.int .i64 x, .int .i64 y] 23)).block k (by omega)).trans (X2.out.block k (by omega))))
  have hblk := (hgrow.block kp (by simp; omega) (hv kp (by omega))).trans ((below_al w2 (.cells #[.int .i64 x, .int .i64 y] 23)).block kp lP2)
  have cP4 : w4.cell? ⟨kp, 0, none⟩ = some (.slice (some ⟨g, 0, none⟩) (n + 1) cap) := (World.cell?_of_block (a := ⟨kp, 0, none⟩) hblk).trans cP2
  have fP4 : w4.frozen? ⟨kp, 0, none⟩ = false := (World.frozen?_of_block (a := ⟨kp, 0, none⟩) hblk).trans (free_of_one H2.out.2.2.2.2.2.1)
  clear hblk hown hgrow hv OW H2 H3 G2 G3 X1 X2 hws hgs cP2 lP2 p02 p12 lx2
  go_wp2
  go_end0
  exact ⟨rfl, _, F1.out, F2.out, F3.out, F4.out⟩
set_option maxRecDepth 100000 in
set_option maxHeartbeats 4000000 in
theorem addY_any (x y : Int) (qy : Int) (l : List (Int × Int)) (fin : List (Value × List (Int × Int))) (va vo : Value) (pb base kp kq B : Nat) (w : World) (hB : B ≤ kp) (hp : PS w base kp kq (l ++ [(x, qy)]) fin va vo pb) (hne : ¬ qy = y) (hl : l.length ≤ 100) :
    Calls Try.prog 46 #[.agg #[.int .i64 x, .int .i64 y], .pointer (some ⟨kp, 0, none⟩)] w fun e w' => e = .returned (.tuple #[]) ∧ ∃ v', PS w' base kp kq ((l ++ [(x, qy)]) ++ [(x, y)]) fin v' vo pb ∧ Below B w w' ∧ w.heap.size ≤ w'.heap.size ∧ ∀ k, k < w.heap.size → k ≠ kp → some k ≠ va.ownBlock → w'.heap[k]? = w.heap[k]? := by
  obtain ⟨i0, hi, hz0, hz1, hz2⟩ := info_parts Try.infoPt
  have H0 := Lib.hid hp
  clear hp
  have hkb : kp < base := H0.out.1
  have hbp : base ≤ pb := H0.out.2.2.2.1
  have cP := cell_of_one H0.out.2.2.2.2.2.1
  have lP := lt_of_block H0.out.2.2.2.2.2.1
  obtain ⟨g, cap, rfl, -, hgl⟩ := own_some H0.out.2.2.2.2.2.2.2.1 (by simp)
  have HL : Hid ((l ++ [(x, qy)]).length = l.length + 1) := Lib.hid (by simp)
  have hcell := H0.out.2.2.2.2.2.2.2.1.cells (g := g) rfl
  have e : pcs (l ++ [(x, qy)]) = pcs l ++ [.int .i64 x, .int .i64 qy] := pcs_snoc l (x, qy)
  have hx := hcell (l.length * 2) (.int .i64 x) (by rw [e, List.getElem?_append_right (by rw [pcs_len]; exact Nat.le_refl _), pcs_len]; simp)
  have hy := hcell (l.length * 2 + 1) (.int .i64 qy) (by rw [e, List.getElem?_append_right (by rw [pcs_len]; omega), pcs_len]; simp)
  rw [Addr.add_lit, Nat.zero_add] at hx hy
  clear hcell e
  rw [HL.out] at cP
  generalize l.length = n at *
  go_enter Try.func46, Try.ntmps46
  go_wp2_with fail
  have H1 := Lib.hid (H0.out.later (below_al w (.cells #[.int .i64 x, .int .i64 y] 23)))
  have G1 := Lib.hid ((below_al w (.cells #[.int .i64 x, .int .i64 y] 23)).mono (show B ≤ w.heap.size by omega))
  obtain ⟨p0, p1, -⟩ := Bx.new w x y 23
  have X1 := Lib.hid (below_al w (.cells #[.int .i64 x, .int .i64 y] 23))
  have cP1 := cell_al cP (.cells #[.int .i64 x, .int .i64 y] 23)
  have hx1 := cell_al hx (.cells #[.int .i64 x, .int .i64 y] 23)
  have hy1 := cell_al hy (.cells #[.int .i64 x, .int .i64 y] 23)
  generalize hw1 : w.alloc (.cells #[.int .i64 x, .int .i64 y] 23) = w1 at *
  clear hw1
  generalize hnb : w.heap.size = nb at *
  have K0 := fun k : Later w1 => k.cell cP1
  have K1 := fun k : Later w1 => k.cell p0
  have K2 := fun k : Later w1 => k.cell p1
  have K3 := fun k : Later w1 => k.cell hx1
  have K4 := fun k : Later w1 => k.cell hy1
  have hq1 : (((n : Int) + 1) == 0) = false := by simp; omega
  have q1 : (0 : Int) ≤ (n : Int) := by omega
  have q2 : (n : Int) < (n : Int) + 1 := by omega
  refine region_later (by kernel_rfl) (by kernel_rfl) ?_
  (go_big_quiet_want; go_big_quiet_op; go_big_quiet_on)
  (go_big_quiet_want; go_big_quiet_op; go_big_quiet_on)
  (go_big_quiet_want; go_big_quiet_op; go_big_quiet_on)
  (go_big_quiet_want; go_big_quiet_op; go_big_quiet_on)
  (go_big_quiet_want; go_big_quiet_op; go_big_quiet_on)
  (go_big_quiet_want; go_big_quiet_op; go_big_quiet_on)
  (go_big_quiet_want; go_big_quiet_op; go_big_quiet_on)
  (go_big_quiet_want; go_big_quiet_op; go_big_quiet_on)
  (go_big_quiet_want; go_big_quiet_op; go_big_quiet_on)
  (go_big_quiet_want; go_big_quiet_op; go_big_quiet_on)
  (go_big_quiet_want; go_big_quiet_op; go_big_quiet_on)
  (go_big_quiet_want; go_big_quiet_op; go_big_quiet_on)
  (go_big_quiet_want; go_big_quiet_op; go_big_quiet_on)
  refine wpQuiet_nil ?_
  refine later_end ?_
  intro k
  have H2 := Lib.hid (H1.out.later k.below)
  have G2 := Lib.hid (G1.out.trans (k.below.mono (by have := G1.out.size; omega)))
  have X2 := Lib.hid (X1.out.trans (k.below.mono (by have := X1.out.size; omega)))
  have cP2 := K0 k
  have p02 := K1 k
  have p12 := K2 k
  clear H1 G1 K0 K1 K2 cP1 p0 p1 K3 K4 hx1 hy1
  generalize k.wd = w2 at *
  clear k
  have lP2 := cell_lt cP2
  have lx2 := cell_lt p02
  have OW0 := H2.out.2.2.2.2.2.2.2.1
  rw [HL.out] at OW0
  have OW := Lib.hid OW0
  clear OW0
  go_wp2_with (at_builtin; refine wpList_append_own _ rfl _ _ 45 rfl pb 23 i0 (.agg #[.int .i64 0, .int .i64 0]) 2 16 Try.underlying45 hi hz0 hz1 hz2 rfl (by decide) _ _ _ rfl (OW.out.alloc _) ⟨w2.heap.size, 0, none⟩ 1 1 [.int .i64 x, .int .i64 y] rfl rfl ?c1 ?c2 ?c3 ?c4 ?c5 ?_)
  case c1 =>
    intro j u hj
    match j, hj with
    | 0, hj => simp at hj; subst hj; simp [Addr.add]
    | 1, hj => simp at hj; subst hj; simp [Addr.add]
  case c2 => intro u hu; simp at hu; rcases hu with rfl | rfl <;> rfl
  case c3 => have := HL.out; unfold maxLen; omega
  case c4 => have := HL.out; omega
  case c5 => simp; have := H2.out.2.2.2.2.1; omega
  intro v' w4 hown hgrow _
  obtain ⟨a', cap', rfl⟩ := own_slice hown
  have hb2 : B ≤ w2.heap.size := by omega
  have H3 := Lib.hid (H2.out.later (below_al w2 (.cells #[.int .i64 x, .int .i64 y] 23)))
  have G3 := Lib.hid (G2.out.trans ((below_al w2 (.cells #[.int .i64 x, .int .i64 y] 23)).mono hb2))
  have hv : ∀ k, k < pb → some k ≠ Value.ownBlock (.slice (some ⟨g, 0, none⟩) (n + 1) cap) := fun k hk e => by have := (OW.out.lt k e.symm).1; omega
  have F1 := Lib.hid (H3.out.push hgrow (part' := (l ++ [(x, qy)]) ++ [(x, y)]) (by rw [pcs_snoc, List.length_append, HL.out]; exact hown))
  have F2 := Lib.hid ((G3.out.grown hgrow (by simp; omega) (fun k hk => by have h1 := (OW.out.lt k hk).1; omega)).setCell (p := ⟨kp, 0, none⟩) hB (.slice a' (n + 1 + 1) cap'))
  have hws : w.heap.size ≤ w2.heap.size := X2.out.size
  have hgs := hgrow.size
  have F3 : Hid (w.heap.size ≤ (w4.setCell ⟨kp, 0, none⟩ (.slice a' (n + 1 + 1) cap')).heap.size) := Lib.hid (by simp at hgs ⊢; omega)
  have F4 : Hid (∀ k, k < w.heap.size → k ≠ kp → some k ≠ Value.ownBlock (.slice (some ⟨g, 0, none⟩) (n + 1) cap) → (w4.setCell ⟨kp, 0, none⟩ (.slice a' (n + 1 + 1) cap')).heap[k]? = w.heap[k]?) := Lib.hid (fun k h1 h2 h3 => by
    rw [Below.heap_setCell _ _ _ _ (by show k ≠ kp; exact h2)]
    exact (hgrow.block k (by simp; omega) h3).trans (((below_al w2 (.cells #[.int .i64 x, .int .i64 y] 23)).block k (by omega)).trans (X2.out.block k (by omega))))
  have hblk := (hgrow.block kp (by simp; omega) (hv kp (by omega))).trans ((below_al w2 (.cells #[.int .i64 x, .int .i64 y] 23)).block kp lP2)
  have cP4 : w4.cell? ⟨kp, 0, none⟩ = some (.slice (some ⟨g, 0, none⟩) (n + 1) cap) := (World.cell?_of_block (a := ⟨kp, 0, none⟩) hblk).trans cP2
  have fP4 : w4.frozen? ⟨kp, 0, none⟩ = false := (World.frozen?_of_block (a := ⟨kp, 0, none⟩) hblk).trans (free_of_one H2.out.2.2.2.2.2.1)
  clear hblk hown hgrow hv OW H2 H3 G2 G3 X1 X2 hws hgs cP2 lP2 p02 p12 lx2
  go_wp2
  go_end0
  exact ⟨rfl, _, F1.out, F2.out, F3.out, F4.out⟩

theorem fin_pos {f : List (Value × List (Int × Int))} : f.length = f.length := rfl
set_option maxRecDepth 100000 in
set_option maxHeartbeats 4000000 in
theorem finN_any (part : List (Int × Int)) (fin : List (Value × List (Int × Int))) (va vo : Value) (pb base kp kq B : Nat) (w : World) (hB : B ≤ kp) (hp : PS w base kp kq part fin va vo pb) (hl : part.length ≤ 1) :
    Calls Try.prog 47 #[.pointer (some ⟨kp, 0, none⟩), .pointer (some ⟨kq, 0, none⟩)] w fun e w' => e = .returned (.tuple #[]) ∧ PS w' base kp kq [] fin (.slice none 0 0) vo w'.heap.size ∧ Below B w w' := by
  have H0 := Lib.hid hp
  clear hp
  obtain ⟨a, cap, rfl⟩ := own_slice H0.out.2.2.2.2.2.2.2.1
  have cP := cell_of_one H0.out.2.2.2.2.2.1
  have fP := free_of_one H0.out.2.2.2.2.2.1
  have F1 := Lib.hid H0.out.drop
  have F2 := Lib.hid ((Below.refl B w).setCell (p := ⟨kp, 0, none⟩) hB (.slice none 0 0))
  have F3 : Hid ((w.setCell ⟨kp, 0, none⟩ (.slice none 0 0)).heap.size = w.heap.size) := Lib.hid (by simp)
  clear H0
  have hl' : decide ((1 : Int) < (part.length : Int)) = false := by simp; omega
  generalize part.length = n at *
  go_enter Try.func47, Try.ntmps47
  go_wp2
  go_end0
  exact ⟨rfl, by rw [F3.out]; exact F1.out, F2.out⟩
set_option maxRecDepth 100000 in
set_option maxHeartbeats 4000000 in
theorem finY_any (part : List (Int × Int)) (fin : List (Value × List (Int × Int))) (va vo : Value) (pb base kp kq B : Nat) (w : World) (hB : B ≤ kp) (hB' : B ≤ kq) (hp : PS w base kp kq part fin va vo pb) (hl : 2 ≤ part.length) (hf : fin.length ≤ 100) :
    Calls Try.prog 47 #[.pointer (some ⟨kp, 0, none⟩), .pointer (some ⟨kq, 0, none⟩)] w fun e w' => e = .returned (.tuple #[]) ∧ ∃ vo', PS w' base kp kq [] (fin ++ [(va, part)]) (.slice none 0 0) vo' w'.heap.size ∧ Below B w w' := by
  obtain ⟨i0, hi, hz0, hz1, hz2⟩ := info_parts Try.infoPs
  have H0 := Lib.hid hp
  clear hp
  have hkp : kp < base := H0.out.1
  have hkq : kq < base := H0.out.2.1
  have hbp : base ≤ pb := H0.out.2.2.2.1
  have hpq : kp ≠ kq := H0.out.2.2.1
  have hqp := Ne.symm hpq
  obtain ⟨a, cap, rfl⟩ := own_slice H0.out.2.2.2.2.2.2.2.1
  obtain ⟨a2, cap2, rfl⟩ := own_slice H0.out.2.2.2.2.2.2.2.2.1
  have cP := cell_of_one H0.out.2.2.2.2.2.1
  have fP := free_of_one H0.out.2.2.2.2.2.1
  have lP := lt_of_block H0.out.2.2.2.2.2.1
  have cQ := cell_of_one H0.out.2.2.2.2.2.2.1
  have fQ := free_of_one H0.out.2.2.2.2.2.2.1
  have lQ := lt_of_block H0.out.2.2.2.2.2.2.1
  have OW := Lib.hid H0.out.2.2.2.2.2.2.2.2.1
  have hl' : decide ((1 : Int) < (part.length : Int)) = true := by simp; omega
  have HN := Lib.hid hl
  generalize hm : part.length = n at *
  go_enter Try.func47, Try.ntmps47
  go_wp2_with (at_builtin; refine wpList_append_own _ rfl _ _ 46 rfl base 45 i0 (.slice none 0 0) 1 24 Try.underlying46 hi hz0 hz1 hz2 rfl (by decide) _ _ _ rfl (OW.out.alloc _) ⟨w.heap.size, 0, none⟩ 1 1 [.slice a n cap] rfl rfl ?c1 ?c2 ?c3 ?c4 ?c5 ?_)
  case c1 =>
    intro j u hj
    match j, hj with
    | 0, hj => simp at hj; subst hj; simp [Addr.add]
  case c2 => intro u hu; simp at hu; subst hu; rfl
  case c3 => unfold maxLen; omega
  case c4 => omega
  case c5 => simp; have := H0.out.2.2.2.2.1; omega
  intro v' w4 hown hgrow _
  obtain ⟨a', cap', rfl⟩ := own_slice hown
  have H3 := Lib.hid (H0.out.later (below_al w (.cells #[.slice a n cap] 45)))
  have G3 := Lib.hid ((below_al w (.cells #[.slice a n cap] 45)).mono (show B ≤ w.heap.size by omega))
  have hv : ∀ k, k < base → some k ≠ Value.ownBlock (.slice a2 fin.length cap2) := fun k hk e => by have := (OW.out.lt k e.symm).1; omega
  have F1 := Lib.hid (H3.out.done hgrow hown)
  have F2 := Lib.hid (((G3.out.grown hgrow (by simp; omega) (fun k hk => by have h1 := (OW.out.lt k hk).1; omega)).setCell (p := ⟨kq, 0, none⟩) hB' (.slice a' (fin.length + 1) cap')).setCell (p := ⟨kp, 0, none⟩) hB (.slice none 0 0))
  have F3 : Hid (((w4.setCell ⟨kq, 0, none⟩ (.slice a' (fin.length + 1) cap')).setCell ⟨kp, 0, none⟩ (.slice none 0 0)).heap.size = w4.heap.size) := Lib.hid (by simp)
  have hblk := (hgrow.block kp (by simp; omega) (hv kp (by omega))).trans ((below_al w (.cells #[.slice a n cap] 45)).block kp lP)
  have hblq := (hgrow.block kq (by simp; omega) (hv kq (by omega))).trans ((below_al w (.cells #[.slice a n cap] 45)).block kq lQ)
  have cP4 := (World.cell?_of_block (a := ⟨kp, 0, none⟩) hblk).trans cP
  have fP4 := (World.frozen?_of_block (a := ⟨kp, 0, none⟩) hblk).trans fP
  have cQ4 := (World.cell?_of_block (a := ⟨kq, 0, none⟩) hblq).trans cQ
  have fQ4 := (World.frozen?_of_block (a := ⟨kq, 0, none⟩) hblq).trans fQ
  clear hblk hblq hown hgrow hv OW H0 H3 G3 cP fP cQ fQ lP lQ
  go_wp2
  go_end0
  exact ⟨rfl, _, by rw [F3.out]; exact F1.out, F2.out⟩
end Go.Proofs.Ytpdiojndfckmfaa
