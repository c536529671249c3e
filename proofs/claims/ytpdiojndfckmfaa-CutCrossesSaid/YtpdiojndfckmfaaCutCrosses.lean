/- CutCrosses returns true for all segments: the walk. -/
import Derived.Test.YtpdiojndfckmfaaCutM
namespace Go.Proofs.Ytpdiojndfckmfaa
open Go.RowKit
open Num Geo Cut
set_option linter.unusedVariables false
/-- a block of eight cells -/
def S8c (v : World) (n : Nat) (ax ay bx by_ cx cy dx dy : Int) : Prop := v.cell? ⟨n, 0, none⟩ = some (.int .i64 ax) ∧ v.cell? ⟨n, 1, none⟩ = some (.int .i64 ay) ∧ v.cell? ⟨n, 2, none⟩ = some (.int .i64 bx) ∧ v.cell? ⟨n, 3, none⟩ = some (.int .i64 by_) ∧ v.cell? ⟨n, 4, none⟩ = some (.int .i64 cx) ∧ v.cell? ⟨n, 5, none⟩ = some (.int .i64 cy) ∧ v.cell? ⟨n, 6, none⟩ = some (.int .i64 dx) ∧ v.cell? ⟨n, 7, none⟩ = some (.int .i64 dy)
theorem S8c.later {v u : World} {n : Nat} {ax ay bx by_ cx cy dx dy : Int} (h : S8c v n ax ay bx by_ cx cy dx dy) (hb : Below v.heap.size v u) : S8c u n ax ay bx by_ cx cy dx dy := by
  obtain ⟨h0, h1, h2, h3, h4, h5, h6, h7⟩ := h
  exact ⟨cell_on h0 hb, cell_on h1 hb, cell_on h2 hb, cell_on h3 hb, cell_on h4 hb, cell_on h5 hb, cell_on h6 hb, cell_on h7 hb⟩
theorem S8c.new (v : World) (ax ay bx by_ cx cy dx dy : Int) (t : TypeId) : S8c (v.alloc (.cells #[.int .i64 ax, .int .i64 ay, .int .i64 bx, .int .i64 by_, .int .i64 cx, .int .i64 cy, .int .i64 dx, .int .i64 dy] t)) v.heap.size ax ay bx by_ cx cy dx dy := by
  refine ⟨?_, ?_, ?_, ?_, ?_, ?_, ?_, ?_⟩ <;> simp
set_option maxRecDepth 100000 in
set_option maxHeartbeats 8000000 in
theorem crosses_law (ax ay bx by_ cx cy dx dy : Int) (w : World) : Calls Try.prog 4 #[.agg #[.int .i64 ax, .int .i64 ay, .int .i64 bx, .int .i64 by_, .int .i64 cx, .int .i64 cy, .int .i64 dx, .int .i64 dy]] w fun e w' => e = .returned (.bool true) ∧ Below w.heap.size w w' := by
  have C1 := Lib.hid (fun u => Cross_any ax ay bx by_ cx cy dx dy u)
  have C2 := Lib.hid (fun u => rCross_any ax ay bx by_ cx cy dx dy u)
  have C3 := Lib.hid (fun u => Cross_any cx cy dx dy ax ay bx by_ u)
  have C4 := Lib.hid (fun u => Cross_any bx by_ ax ay cx cy dx dy u)
  have C5 := Lib.hid (fun u => Cross_any ax ay bx by_ dx dy cx cy u)
  have AW := Lib.hid awake09
  obtain ⟨p1, p2, p3⟩ := crP_comm ax ay bx by_ cx cy dx dy
  obtain ⟨q1, q2, q3⟩ := crE_comm ax ay bx by_ cx cy dx dy
  unfold CrossOut at C1 C2 C3 C4 C5
  rw [p1, q1] at C3
  rw [p2, q2] at C4
  rw [p3, q3] at C5
  clear p1 p2 p3 q1 q2 q3
  generalize (crP ax ay bx by_ cx cy dx dy).1 = X at *
  generalize (crP ax ay bx by_ cx cy dx dy).2 = Y at *
  generalize crE ax ay bx by_ cx cy dx dy = E at *
  go_enter Try.func4, Try.ntmps4
  go_wp2_with fail
  have H0 := Lib.hid (S8c.new w ax ay bx by_ cx cy dx dy 34)
  have G0 := Lib.hid (below_al w (.cells #[.int .i64 ax, .int .i64 ay, .int .i64 bx, .int .i64 by_, .int .i64 cx, .int .i64 cy, .int .i64 dx, .int .i64 dy] 34))
  generalize w.alloc (.cells #[.int .i64 ax, .int .i64 ay, .int .i64 bx, .int .i64 by_, .int .i64 cx, .int .i64 cy, .int .i64 dx, .int .i64 dy] 34) = w0 at *
  refine (C1.out _).mono ?_
  rintro e w1 ⟨rfl, hb⟩
  have H1 := Lib.hid (H0.out.later hb)
  have G1 := Lib.hid (below_on G0.out hb)
  clear hb H0 G0 C1
  obtain ⟨c0, c1, c2, c3, c4, c5, c6, c7⟩ := H1.out
  have l0 := cell_lt c0
  go_wp2_with fail
  refine (C2.out _).mono ?_
  rintro e w2 ⟨rfl, hb⟩
  have H2 := Lib.hid (H1.out.later (below_on (below_al w1 _) hb))
  have G2 := Lib.hid (below_on (below_on G1.out (below_al w1 _)) hb)
  have R3 := Lib.hid ((Bx.new w1 X Y 23).later hb)
  generalize w1.heap.size = n3 at *
  clear hb H1 G1 C2 c0 c1 c2 c3 c4 c5 c6 c7 l0
  obtain ⟨c0, c1, c2, c3, c4, c5, c6, c7⟩ := H2.out
  have l0 := cell_lt c0
  go_wp2_with fail
  refine (C3.out _).mono ?_
  rintro e w3 ⟨rfl, hb⟩
  have H3 := Lib.hid (H2.out.later (below_on (below_al w2 _) hb))
  have G3 := Lib.hid (below_on (below_on G2.out (below_al w2 _)) hb)
  have R5 := Lib.hid ((Bx.new w2 X Y 23).later hb)
  have R3 := Lib.hid (R3.out.later (below_on (below_al w2 (.cells #[.int .i64 X, .int .i64 Y] 23)) hb))
  generalize w2.heap.size = n5 at *
  clear hb H2 G2 C3 c0 c1 c2 c3 c4 c5 c6 c7 l0
  obtain ⟨c0, c1, c2, c3, c4, c5, c6, c7⟩ := H3.out
  have l0 := cell_lt c0
  go_wp2_with fail
  refine (C4.out _).mono ?_
  rintro e w4 ⟨rfl, hb⟩
  have H4 := Lib.hid (H3.out.later (below_on (below_al w3 _) hb))
  have G4 := Lib.hid (below_on (below_on G3.out (below_al w3 _)) hb)
  have R7 := Lib.hid ((Bx.new w3 X Y 23).later hb)
  have R3 := Lib.hid (R3.out.later (below_on (below_al w3 (.cells #[.int .i64 X, .int .i64 Y] 23)) hb))
  have R5 := Lib.hid (R5.out.later (below_on (below_al w3 (.cells #[.int .i64 X, .int .i64 Y] 23)) hb))
  generalize w3.heap.size = n7 at *
  clear hb H3 G3 C4 c0 c1 c2 c3 c4 c5 c6 c7 l0
  obtain ⟨c0, c1, c2, c3, c4, c5, c6, c7⟩ := H4.out
  have l0 := cell_lt c0
  go_wp2_with fail
  refine (C5.out _).mono ?_
  rintro e w5 ⟨rfl, hb⟩
  have hq := below_on (below_al w4 (.cells #[.int .i64 X, .int .i64 Y] 23)) hb
  have G5 := Lib.hid (below_on G4.out hq)
  have R9 := Lib.hid ((Bx.new w4 X Y 23).later hb)
  have R3 := Lib.hid (R3.out.later hq)
  have R5 := Lib.hid (R5.out.later hq)
  have R7 := Lib.hid (R7.out.later hq)
  generalize w4.heap.size = n9 at *
  clear hb hq H4 G4 C5 c0 c1 c2 c3 c4 c5 c6 c7 l0
  have r11 := Bx.new w5 X Y 23
  have ha := below_al w5 (.cells #[.int .i64 X, .int .i64 Y] 23)
  obtain ⟨k0, k1, -⟩ := R3.out.later ha
  obtain ⟨k2, k3, -⟩ := R5.out.later ha
  obtain ⟨k4, k5, -⟩ := R7.out.later ha
  obtain ⟨k6, k7, -⟩ := R9.out.later ha
  obtain ⟨k8, k9, -⟩ := r11
  have G6 := Lib.hid (below_on G5.out ha)
  clear ha R3 R5 R7 R9 G5
  go_upto_region 6 with fail
  generalize w5.alloc (.cells #[.int .i64 X, .int .i64 Y] 23) = w6 at *
  generalize w5.heap.size = n11 at *
  go_wp2_with fail
  refine (AW.out _).mono ?_
  rintro e w7 ⟨rfl, hb⟩
  have G7 := Lib.hid (below_on G6.out hb)
  clear hb G6 AW k0 k1 k2 k3 k4 k5 k6 k7 k8 k9
  go_wp2
  go_ret
  exact ⟨rfl, G7.out⟩
end Go.Proofs.Ytpdiojndfckmfaa
