/- The contract of the law's awake (mapsheetslaw09): it returns true. -/
import Derived.Test.YtpdiojndfckmfaaCutE
import Derived.Test.YtpdiojndfckmfaaCutK
import Derived.Test.YtpdiojndfckmfaaCutL
namespace Go.Proofs.Ytpdiojndfckmfaa
open Go.RowKit
open Num Geo Cut
set_option linter.unusedVariables false
theorem cross_is {ax ay bx by_ cx cy dx dy X Y E : Int} (h : crE ax ay bx by_ cx cy dx dy = E ∧ (crP ax ay bx by_ cx cy dx dy).1 = X ∧ (crP ax ay bx by_ cx cy dx dy).2 = Y) (w : World) :
    Calls Try.prog 13 #[.agg #[.int .i64 ax, .int .i64 ay], .agg #[.int .i64 bx, .int .i64 by_], .agg #[.int .i64 cx, .int .i64 cy], .agg #[.int .i64 dx, .int .i64 dy]] w
      fun e w' => e = .returned (.tuple #[.agg #[.int .i64 X, .int .i64 Y], .int .i64 E]) ∧ Below w.heap.size w w' := by
  obtain ⟨rfl, rfl, rfl⟩ := h
  exact Cross_any ax ay bx by_ cx cy dx dy w
theorem atX_is {ax ay bx by_ v V E : Int} (h : atV ax ay bx by_ v = V ∧ atE ax ay bx by_ v = E) (hv : I64 v) (w : World) :
    Calls Try.prog 15 #[.agg #[.int .i64 ax, .int .i64 ay], .agg #[.int .i64 bx, .int .i64 by_], .int .i64 v] w fun e w' => e = .returned (.tuple #[.int .i64 V, .int .i64 E]) ∧ Below w.heap.size w w' := by
  obtain ⟨rfl, rfl⟩ := h
  exact AtX_any ax ay bx by_ v w hv
set_option maxRecDepth 10000 in
theorem ex_cross1 : crE 0 0 3 3 0 1 1 0 = 0 ∧ (crP 0 0 3 3 0 1 1 0).1 = 1 ∧ (crP 0 0 3 3 0 1 1 0).2 = 1 := by decide
set_option maxRecDepth 10000 in
theorem ex_cross2 : crE 0 0 4 0 2 0 6 0 = 1 ∧ (crP 0 0 4 0 2 0 6 0).1 = 0 ∧ (crP 0 0 4 0 2 0 6 0).2 = 0 := by decide
set_option maxRecDepth 10000 in
theorem ex_atX : atV 0 0 2 3 1 = 2 ∧ atE 0 0 2 3 1 = 0 := by decide
/-- the cells of a literal list of points -/
theorem lit_pts (v : World) (l : List (Int × Int)) (cs : Array Value) (hc : cs.toList = pcs l) : Pts (v.alloc (.cells cs 23)) (v.alloc (.cells cs 23)).heap.size (some ⟨v.heap.size, 0, none⟩) l := fun hn => by
  refine ⟨v.heap.size, 0, rfl, by simp, fun j hj => ?_⟩
  have h := pcs_get l j hj
  rw [← hc] at h
  have e : ∀ i, (v.alloc (.cells cs 23)).cell? ⟨v.heap.size, 0 + i, none⟩ = cs.toList[i]? := fun i => by rw [Array.getElem?_toList]; simp
  exact ⟨(e _).trans h.1, (e _).trans h.2⟩
set_option maxRecDepth 100000 in
set_option maxHeartbeats 8000000 in
theorem awake09 (w : World) : Calls Try.prog 9 #[] w fun e w' => e = .returned (.bool true) ∧ Below w.heap.size w w' := by
  go_enter Try.func9, Try.ntmps9
  go_wp2_with fail
  refine (cross_is ex_cross1 _).mono ?_
  rintro e w1 ⟨rfl, hb1⟩
  have B1 := Lib.hid hb1
  clear hb1
  go_wp2_with fail
  refine (cross_is ex_cross2 _).mono ?_
  rintro e w2 ⟨rfl, hb2⟩
  have P2 := Lib.hid ((Bx.new w1 1 1 23).later hb2)
  have B2 := Lib.hid (below_on (below_on B1.out (below_al w1 _)) hb2)
  clear hb2 B1
  generalize w1.heap.size = p at *
  go_wp2_with fail
  refine (atX_is ex_atX (by unfold I64; decide) _).mono ?_
  rintro e w3 ⟨rfl, hb3⟩
  have P3 := Lib.hid (P2.out.later (below_on (below_al w2 _) hb3))
  have B3 := Lib.hid (below_on (below_on B2.out (below_al w2 _)) hb3)
  clear hb3 B2 P2
  generalize w2.heap.size = p' at *
  go_wp2_with fail
  refine (clip_is ex_clip0 (by unfold I64; decide) (by unfold I64; decide) (by unfold I64; decide) (by unfold I64; decide) _).mono ?_
  rintro e w4 ⟨rfl, hb4⟩
  have P4 := Lib.hid (P3.out.later hb4)
  have B4 := Lib.hid (below_on B3.out hb4)
  clear hb4 B3 P3
  have C5 := Lib.hid ((Bx.new w4 0 2 23).later (below_al _ (.cells #[.int .i64 4, .int .i64 4] 23)))
  have s4 : (w4.alloc (.cells #[.int .i64 0, .int .i64 2] 23)).heap.size = w4.heap.size + 1 := by simp
  have D5 := Lib.hid (Bx.new (w4.alloc (.cells #[.int .i64 0, .int .i64 2] 23)) 4 4 23)
  rw [s4] at D5
  have A5 := Lib.hid (below_on (below_al w4 (.cells #[.int .i64 0, .int .i64 2] 23)) (below_al _ (.cells #[.int .i64 4, .int .i64 4] 23)))
  have s5 : ((w4.alloc (.cells #[.int .i64 0, .int .i64 2] 23)).alloc (.cells #[.int .i64 4, .int .i64 4] 23)).heap.size = w4.heap.size + 1 + 1 := by simp
  go_upto_region 5 with fail
  generalize hv : (w4.alloc (.cells #[.int .i64 0, .int .i64 2] 23)).alloc (.cells #[.int .i64 4, .int .i64 4] 23) = v at *
  clear hv
  have P5 := Lib.hid (P4.out.later A5.out)
  have B5 := Lib.hid (below_on B4.out A5.out)
  clear P4 B4 A5 s4
  generalize w4.heap.size = c at *
  have LP := Lib.hid (lit_pts v exL #[.int .i64 (-2), .int .i64 1, .int .i64 2, .int .i64 1, .int .i64 2, .int .i64 9, .int .i64 3, .int .i64 9, .int .i64 3, .int .i64 1] rfl)
  have A6 := Lib.hid (below_al v (.cells #[.int .i64 (-2), .int .i64 1, .int .i64 2, .int .i64 1, .int .i64 2, .int .i64 9, .int .i64 3, .int .i64 9, .int .i64 3, .int .i64 1] 23))
  have PX := Lib.hid (Path_ex v.heap.size _ LP.out)
  rw [s5] at PX
  go_wp2_with fail
  refine PX.out.mono ?_
  rintro e w6 ⟨vo, rfl, hp, hb6⟩
  have P6 := Lib.hid (P5.out.later (below_on A6.out hb6))
  have C6 := Lib.hid (C5.out.later (below_on A6.out hb6))
  have D6 := Lib.hid (D5.out.later (below_on A6.out hb6))
  have B6 := Lib.hid (below_on (below_on B5.out A6.out) hb6)
  clear hb6 P5 C5 D5 B5 A6 LP s5 PX
  generalize v.heap.size = nv at *
  clear v
  obtain ⟨base, f, hf, ho, hq⟩ := hp
  obtain ⟨q1, q2, rfl, h1, h2⟩ : ∃ q1 q2, f = [q1, q2] ∧ q1.2 = [(0, 1), (2, 1), (2, 4)] ∧ q2.2 = [(3, 4), (3, 1)] := by
    match f, hf with
    | [q1, q2], hf => simp at hf; exact ⟨q1, q2, rfl, hf.1, hf.2⟩
    | [], hf => simp at hf
    | [_], hf => simp at hf
    | _ :: _ :: _ :: _, hf => simp at hf
  obtain ⟨v1, l1⟩ := q1
  obtain ⟨v2, l2⟩ := q2
  simp only at h1 h2
  subst h1 h2
  obtain ⟨g, cap, hvo, -, hg⟩ : ∃ g cap, vo = .slice (some ⟨g, 0, none⟩) 2 cap ∧ base ≤ g ∧ g < w6.heap.size := own_some ho (by simp)
  subst hvo
  have r1 := hq (v1, [(0, 1), (2, 1), (2, 4)]) (by simp)
  have r2 := hq (v2, [(3, 4), (3, 1)]) (by simp)
  obtain ⟨a1, e1, hv1⟩ := own_slice r1
  obtain ⟨a2, e2, hv2⟩ := own_slice r2
  simp only at hv1 hv2 r1 r2
  subst hv1 hv2
  have k1 := ho.cells (g := g) rfl 0 _ rfl
  have k2 := ho.cells (g := g) rfl 1 _ rfl
  rw [Addr.add_lit, Nat.zero_add] at k1 k2
  have t1 := Lib.hid (own_pts r1)
  have t2 := Lib.hid (own_pts r2)
  have HK := Lib.hid (And.intro k1 k2)
  clear hf ho hq r1 r2 k1 k2
  obtain ⟨pp0, pp1, -⟩ := P6.out
  obtain ⟨cc0, cc1, -⟩ := C6.out
  obtain ⟨dd0, dd1, -⟩ := D6.out
  clear P6 C6 D6
  have X1 := Lib.hid (lit_pts w6 [(0, 1), (2, 1), (2, 4)] #[.int .i64 0, .int .i64 1, .int .i64 2, .int .i64 1, .int .i64 2, .int .i64 4] rfl)
  have SP : Hid (Calls Try.prog 25 #[.slice (some ⟨g, 0, none⟩) 2 cap, .slice (some ⟨w6.heap.size + 1 + 1, 0, none⟩) 2 2] (((w6.alloc (.cells #[.int .i64 0, .int .i64 1, .int .i64 2, .int .i64 1, .int .i64 2, .int .i64 4] 23)).alloc (.cells #[.int .i64 3, .int .i64 4, .int .i64 3, .int .i64 1] 23)).alloc (.cells #[.slice (some ⟨w6.heap.size, 0, none⟩) 3 3, .slice (some ⟨w6.heap.size + 1, 0, none⟩) 2 2] 45)) fun e w' => e = .returned (.bool true) ∧ Below w6.heap.size w6 w') := by
    have Y1 := below_al w6 (.cells #[.int .i64 0, .int .i64 1, .int .i64 2, .int .i64 1, .int .i64 2, .int .i64 4] 23)
    have z1 : (w6.alloc (.cells #[.int .i64 0, .int .i64 1, .int .i64 2, .int .i64 1, .int .i64 2, .int .i64 4] 23)).heap.size = w6.heap.size + 1 := by simp
    have X1' := X1.out
    generalize w6.alloc (.cells #[.int .i64 0, .int .i64 1, .int .i64 2, .int .i64 1, .int .i64 2, .int .i64 4] 23) = u1 at *
    have X2 := lit_pts u1 [(3, 4), (3, 1)] #[.int .i64 3, .int .i64 4, .int .i64 3, .int .i64 1] rfl
    have Y2 := below_al u1 (.cells #[.int .i64 3, .int .i64 4, .int .i64 3, .int .i64 1] 23)
    have z2 : (u1.alloc (.cells #[.int .i64 3, .int .i64 4, .int .i64 3, .int .i64 1] 23)).heap.size = w6.heap.size + 1 + 1 := by simp [z1]
    rw [z1] at X2
    generalize u1.alloc (.cells #[.int .i64 3, .int .i64 4, .int .i64 3, .int .i64 1] 23) = u2 at *
    have Y3 := below_al u2 (.cells #[.slice (some ⟨w6.heap.size, 0, none⟩) 3 3, .slice (some ⟨w6.heap.size + 1, 0, none⟩) 2 2] 45)
    obtain ⟨m1, m2⟩ := cell_new2 u2 (x := .slice (some ⟨w6.heap.size, 0, none⟩) 3 3) (y := .slice (some ⟨w6.heap.size + 1, 0, none⟩) 2 2) (t := 45)
    rw [z2] at m1 m2
    have Y := below_on (below_on Y1 Y2) Y3
    exact Lib.hid ((parts_true [(0, 1), (2, 1), (2, 4)] [(3, 4), (3, 1)] g (w6.heap.size + 1 + 1) cap a1 a2 (some ⟨w6.heap.size, 0, none⟩) (some ⟨w6.heap.size + 1, 0, none⟩) e1 e2 3 2 _ (by decide) (by decide)
      (cell_on HK.out.1 Y) (cell_on HK.out.2 Y) m1 m2 (t1.out.later Y) (t2.out.later Y) ((X1'.later Y2).later Y3) (X2.later Y3)).mono fun e w' ⟨h1, h2⟩ => ⟨h1, below_on Y h2⟩)
  clear X1 t1 t2 HK
  go_wp2_with fail
  refine SP.out.mono ?_
  rintro e w7 ⟨rfl, hb7⟩
  have B7 := Lib.hid (below_on B6.out hb7)
  clear hb7 SP B6 pp0 pp1 cc0 cc1 dd0 dd1
  go_wp2
  go_ret
  exact ⟨rfl, B7.out⟩
end Go.Proofs.Ytpdiojndfckmfaa
