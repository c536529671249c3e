/- GeomTouches returns true for all four points: the walk. -/
import Derived.Test.YtkojdifgmppfpaaGeoN
import Derived.Test.YtkojdifgmppfpaaGeoPlainG
namespace Go.Proofs.Ytkojdifgmppfpaa
open Go.RowKit
open Num Geo
set_option linter.unusedVariables false
set_option maxRecDepth 100000 in
set_option maxHeartbeats 4000000 in
theorem touches_off (ax ay bx by_ cx cy dx dy : Int) (w : World) (hn : nearL [(ax, ay), (bx, by_), (cx, cy), (dx, dy)] = false) : Calls Try.prog 10 #[.agg #[.int .i64 ax, .int .i64 ay], .agg #[.int .i64 bx, .int .i64 by_], .agg #[.int .i64 cx, .int .i64 cy], .agg #[.int .i64 dx, .int .i64 dy]] w fun e w' => e = .returned (.bool true) ∧ Below w.heap.size w w' := by
  go_enter Try.func10, Try.ntmps10
  go_wp2_with fail
  refine (rnear4 w ax ay bx by_ cx cy dx dy).mono ?_
  rintro e w1 ⟨rfl, c0, c1, c2, c3, c4, c5, c6, c7, hg⟩
  rw [hn]
  have G := Lib.hid hg
  clear hg c0 c1 c2 c3 c4 c5 c6 c7
  go_wp2_with fail
  refine (awake08 _).mono ?_
  rintro e w2 ⟨rfl, hb⟩
  have G2 := Lib.hid (below_on G.out hb)
  clear hb G
  go_wp2
  go_ret
  exact ⟨rfl, G2.out⟩
set_option maxRecDepth 100000 in
set_option maxHeartbeats 4000000 in
theorem touches_on (ax ay bx by_ cx cy dx dy : Int) (w : World) (hn : nearL [(ax, ay), (bx, by_), (cx, cy), (dx, dy)] = true) (ho : onF ax ay bx by_ dx dy = true) : Calls Try.prog 10 #[.agg #[.int .i64 ax, .int .i64 ay], .agg #[.int .i64 bx, .int .i64 by_], .agg #[.int .i64 cx, .int .i64 cy], .agg #[.int .i64 dx, .int .i64 dy]] w fun e w' => e = .returned (.bool true) ∧ Below w.heap.size w w' := by
  obtain ⟨na, nb, nc, nd⟩ := (near4_iff _ _ _ _ _ _ _ _).mp hn
  have h3 := (near3_iff _ _ _ _ _ _).mpr ⟨na, nb, nd⟩
  have O := On_any ax ay bx by_ dx dy
  rw [ho] at O
  have D := Dist_any ax ay bx by_ dx dy
  have DB := Dist_any bx by_ ax ay dx dy
  rw [(ds_sym h3).1, (ds_sym h3).2] at DB
  unfold DistOut at D DB
  have M1 := Meet_any ax ay bx by_ dx dy dx dy
  rw [mt_point h3, ho] at M1
  have M2 := Meet_any ax ay bx by_ cx cy dx dy
  have SD := Side_any ax ay bx by_ dx dy
  have hz := ds_zero h3
  rw [ho] at hz
  obtain ⟨r1, r2⟩ := ds_range h3
  have hm := mt_touch hn ho
  have hs : twF ax ay bx by_ dx dy = 0 := by
    unfold twF; rw [if_pos h3]; exact (onF_true ho).2.1
  rw [hs, show sgn 0 = 0 by decide] at SD
  rw [hz.mpr rfl] at D DB
  rw [show b2i true = 1 by decide] at M1
  generalize mtF ax ay bx by_ cx cy dx dy = m at *
  have em : decide (0 < m) = true := decide_eq_true hm
  clear hm hs
  generalize dsD ax ay bx by_ dx dy = q at *
  have eq1 : decide (q < 1) = false := decide_eq_false (by omega)
  have eq2 : (q == q) = true := by simp
  clear hz r1 r2 ho h3 na nb nc nd
  try clear hz'
  have O := Lib.hid O
  have D := Lib.hid D
  have DB := Lib.hid DB
  have M1 := Lib.hid M1
  have M2 := Lib.hid M2
  have SD := Lib.hid SD
  go_enter Try.func10, Try.ntmps10
  go_wp2_with fail
  refine (rnear4 w ax ay bx by_ cx cy dx dy).mono ?_
  rintro e w1 ⟨rfl, HB⟩
  rw [hn]
  clear hn
  obtain ⟨c0, c1, c2, c3, c4, c5, c6, c7, hg⟩ := id HB
  have HB := Lib.hid HB
  clear hg
  go_wp2_with fail
  refine (O.out _).mono ?_
  rintro e w2 ⟨rfl, hb⟩
  have HC := Lib.hid (HB.out.later hb)
  clear HB hb c0 c1 c2 c3 c4 c5 c6 c7
  obtain ⟨c0, c1, c2, c3, c4, c5, c6, c7, hg⟩ := HC.out
  clear hg
  go_wp2_with fail
  refine (D.out _).mono ?_
  rintro e w3 ⟨rfl, hb⟩
  have HD := Lib.hid (HC.out.later hb)
  clear HC hb c0 c1 c2 c3 c4 c5 c6 c7
  go_wp2_with fail
  have b0 := (cell_new2 w3 (x := .int .i64 0) (y := .int .i64 q) (t := 32)).1
  have b1 := (cell_new2 w3 (x := .int .i64 0) (y := .int .i64 q) (t := 32)).2
  have HE := Lib.hid (HD.out.later (below_al w3 (.cells #[.int .i64 0, .int .i64 q] 32)))
  clear HD
  generalize w3.alloc (.cells #[.int .i64 0, .int .i64 q] 32) = u at *
  generalize w3.heap.size = B at *
  obtain ⟨c0, c1, c2, c3, c4, c5, c6, c7, hg⟩ := HE.out
  clear hg
  have L0 := fun m : Later u => m.cell c0
  have L1 := fun m : Later u => m.cell c1
  have L2 := fun m : Later u => m.cell c2
  have L3 := fun m : Later u => m.cell c3
  have L4 := fun m : Later u => m.cell c4
  have L5 := fun m : Later u => m.cell c5
  have L6 := fun m : Later u => m.cell c6
  have L7 := fun m : Later u => m.cell c7
  have L8 := fun m : Later u => m.cell b0
  have L9 := fun m : Later u => m.cell b1
  refine region_later (by kernel_rfl) (by kernel_rfl) ?_
  (go_big_quiet_want; go_big_quiet_op; go_big_quiet_on)
  (go_big_quiet_want; go_big_quiet_op; go_big_quiet_on)
  (go_big_quiet_want; go_big_quiet_op; go_big_quiet_on)
  (go_big_quiet_want; go_big_quiet_op; go_big_quiet_on)
  (go_big_quiet_want; go_big_quiet_op; go_big_quiet_call (exact later_of (M1.out _)))
  (go_big_quiet_want; go_big_quiet_op; go_big_quiet_on)
  (go_big_quiet_want; go_big_quiet_op; go_big_quiet_on)
  (go_big_quiet_want; go_big_quiet_op; go_big_quiet_on)
  (go_big_quiet_want; go_big_quiet_op; go_big_quiet_on)
  (go_big_quiet_want; go_big_quiet_op; go_big_quiet_on)
  (go_big_quiet_want; go_big_quiet_op; go_big_quiet_on)
  (go_big_quiet_want; go_big_quiet_op; go_big_quiet_on)
  (go_big_quiet_want; go_big_quiet_op; go_big_quiet_on)
  (go_big_quiet_want; go_big_quiet_op; go_big_quiet_call (exact later_of (M1.out _)))
  (go_big_quiet_want; go_big_quiet_op; go_big_quiet_on)
  (go_big_quiet_want; go_big_quiet_op; go_big_quiet_on)
  (go_big_quiet_want; go_big_quiet_op; go_big_quiet_on)
  (go_big_quiet_want; go_big_quiet_op; go_big_quiet_on)
  (go_big_quiet_want; go_big_quiet_op; go_big_quiet_on)
  (go_big_quiet_want; go_big_quiet_op; go_big_quiet_on)
  (go_big_quiet_want; go_big_quiet_op; go_big_quiet_on)
  (go_big_quiet_want; go_big_quiet_op; go_big_quiet_on)
  (go_big_quiet_want; go_big_quiet_op; go_big_quiet_on)
  (go_big_quiet_want; go_big_quiet_op; go_big_quiet_on)
  (go_big_quiet_want; go_big_quiet_op; go_big_quiet_on)
  (go_big_quiet_want; go_big_quiet_op; go_big_quiet_on)
  (go_big_quiet_want; go_big_quiet_op; go_big_quiet_on)
  (go_big_quiet_want; go_big_quiet_op; go_big_quiet_on)
  (go_big_quiet_want; go_big_quiet_op; go_big_quiet_on)
  (go_big_quiet_want; go_big_quiet_op; go_big_quiet_on)
  (go_big_quiet_want; go_big_quiet_op; go_big_quiet_on)
  (go_big_quiet_want; go_big_quiet_op; go_big_quiet_on)
  (go_big_quiet_want; go_big_quiet_op; go_big_quiet_on)
  (go_big_quiet_want; go_big_quiet_op; go_big_quiet_on)
  (go_big_quiet_want; go_big_quiet_op; go_big_quiet_on)
  (go_big_quiet_want; go_big_quiet_op; go_big_quiet_on)
  (go_big_quiet_want; go_big_quiet_op; go_big_quiet_on)
  (go_big_quiet_want; go_big_quiet_op; go_big_quiet_call (exact later_of (DB.out _)))
  (go_big_quiet_want; go_big_quiet_op; go_big_quiet_on)
  (go_big_quiet_want; go_big_quiet_op; go_big_quiet_on)
  (go_big_quiet_want; go_big_quiet_op; go_big_quiet_on)
  refine wpQuiet_nil ?_
  refine later_end ?_
  intro k
  have HF := Lib.hid (HE.out.later k.below)
  clear HE L0 L1 L2 L3 L4 L5 L6 L7 L8 L9 c0 c1 c2 c3 c4 c5 c6 c7 b0 b1
  generalize k.wd = v at *
  obtain ⟨c0, c1, c2, c3, c4, c5, c6, c7, hg⟩ := HF.out
  clear hg
  go_wp2_with fail
  refine (M2.out _).mono ?_
  rintro e w4 ⟨rfl, hb⟩
  have HG := Lib.hid (HF.out.later hb)
  clear HF hb c0 c1 c2 c3 c4 c5 c6 c7
  obtain ⟨c0, c1, c2, c3, c4, c5, c6, c7, hg⟩ := HG.out
  clear hg
  go_wp2_with fail
  refine (SD.out _).mono ?_
  rintro e w5 ⟨rfl, hb⟩
  have HH := Lib.hid (HG.out.later hb)
  clear HG hb c0 c1 c2 c3 c4 c5 c6 c7
  have G := Lib.hid HH.out.2.2.2.2.2.2.2.2
  clear HH
  go_wp2_with fail
  refine (awake08 _).mono ?_
  rintro e w6 ⟨rfl, hb⟩
  have G2 := Lib.hid (below_on G.out hb)
  clear hb G
  go_wp2
  go_ret
  exact ⟨rfl, G2.out⟩
set_option maxRecDepth 100000 in
set_option maxHeartbeats 4000000 in
theorem touches_out (ax ay bx by_ cx cy dx dy : Int) (w : World) (hn : nearL [(ax, ay), (bx, by_), (cx, cy), (dx, dy)] = true) (ho : onF ax ay bx by_ dx dy = false) : Calls Try.prog 10 #[.agg #[.int .i64 ax, .int .i64 ay], .agg #[.int .i64 bx, .int .i64 by_], .agg #[.int .i64 cx, .int .i64 cy], .agg #[.int .i64 dx, .int .i64 dy]] w fun e w' => e = .returned (.bool true) ∧ Below w.heap.size w w' := by
  obtain ⟨na, nb, nc, nd⟩ := (near4_iff _ _ _ _ _ _ _ _).mp hn
  have h3 := (near3_iff _ _ _ _ _ _).mpr ⟨na, nb, nd⟩
  have O := On_any ax ay bx by_ dx dy
  rw [ho] at O
  have D := Dist_any ax ay bx by_ dx dy
  have DB := Dist_any bx by_ ax ay dx dy
  rw [(ds_sym h3).1, (ds_sym h3).2] at DB
  unfold DistOut at D DB
  have M1 := Meet_any ax ay bx by_ dx dy dx dy
  rw [mt_point h3, ho] at M1
  have M2 := Meet_any ax ay bx by_ cx cy dx dy
  have SD := Side_any ax ay bx by_ dx dy
  have hz := ds_zero h3
  rw [ho] at hz
  obtain ⟨r1, r2⟩ := ds_range h3
  have hz' : ¬ dsN ax ay bx by_ dx dy = 0 := fun h => by have := hz.mp h; cases this
  rw [show b2i false = 0 by decide] at M1
  generalize sgn (twF ax ay bx by_ dx dy) = s at *
  generalize mtF ax ay bx by_ cx cy dx dy = m at *
  generalize dsN ax ay bx by_ dx dy = n at *
  have en : (n == 0) = false := by simpa using hz'
  have en2 : decide (n < 0) = false := decide_eq_false (by omega)
  have en3 : (n == n) = true := by simp
  generalize dsD ax ay bx by_ dx dy = q at *
  have eq1 : decide (q < 1) = false := decide_eq_false (by omega)
  have eq2 : (q == q) = true := by simp
  clear hz r1 r2 ho h3 na nb nc nd
  try clear hz'
  have O := Lib.hid O
  have D := Lib.hid D
  have DB := Lib.hid DB
  have M1 := Lib.hid M1
  have M2 := Lib.hid M2
  have SD := Lib.hid SD
  go_enter Try.func10, Try.ntmps10
  go_wp2_with fail
  refine (rnear4 w ax ay bx by_ cx cy dx dy).mono ?_
  rintro e w1 ⟨rfl, HB⟩
  rw [hn]
  clear hn
  obtain ⟨c0, c1, c2, c3, c4, c5, c6, c7, hg⟩ := id HB
  have HB := Lib.hid HB
  clear hg
  go_wp2_with fail
  refine (O.out _).mono ?_
  rintro e w2 ⟨rfl, hb⟩
  have HC := Lib.hid (HB.out.later hb)
  clear HB hb c0 c1 c2 c3 c4 c5 c6 c7
  obtain ⟨c0, c1, c2, c3, c4, c5, c6, c7, hg⟩ := HC.out
  clear hg
  go_wp2_with fail
  refine (D.out _).mono ?_
  rintro e w3 ⟨rfl, hb⟩
  have HD := Lib.hid (HC.out.later hb)
  clear HC hb c0 c1 c2 c3 c4 c5 c6 c7
  go_wp2_with fail
  have b0 := (cell_new2 w3 (x := .int .i64 n) (y := .int .i64 q) (t := 32)).1
  have b1 := (cell_new2 w3 (x := .int .i64 n) (y := .int .i64 q) (t := 32)).2
  have HE := Lib.hid (HD.out.later (below_al w3 (.cells #[.int .i64 n, .int .i64 q] 32)))
  clear HD
  generalize w3.alloc (.cells #[.int .i64 n, .int .i64 q] 32) = u at *
  generalize w3.heap.size = B at *
  obtain ⟨c0, c1, c2, c3, c4, c5, c6, c7, hg⟩ := HE.out
  clear hg
  have L0 := fun m : Later u => m.cell c0
  have L1 := fun m : Later u => m.cell c1
  have L2 := fun m : Later u => m.cell c2
  have L3 := fun m : Later u => m.cell c3
  have L4 := fun m : Later u => m.cell c4
  have L5 := fun m : Later u => m.cell c5
  have L6 := fun m : Later u => m.cell c6
  have L7 := fun m : Later u => m.cell c7
  have L8 := fun m : Later u => m.cell b0
  have L9 := fun m : Later u => m.cell b1
  refine region_later (by kernel_rfl) (by kernel_rfl) ?_
  (go_big_quiet_want; go_big_quiet_op; go_big_quiet_on)
  (go_big_quiet_want; go_big_quiet_op; go_big_quiet_on)
  (go_big_quiet_want; go_big_quiet_op; go_big_quiet_on)
  (go_big_quiet_want; go_big_quiet_op; go_big_quiet_on)
  (go_big_quiet_want; go_big_quiet_op; go_big_quiet_call (exact later_of (M1.out _)))
  (go_big_quiet_want; go_big_quiet_op; go_big_quiet_on)
  (go_big_quiet_want; go_big_quiet_op; go_big_quiet_on)
  (go_big_quiet_want; go_big_quiet_op; go_big_quiet_on)
  (go_big_quiet_want; go_big_quiet_op; go_big_quiet_on)
  (go_big_quiet_want; go_big_quiet_op; go_big_quiet_on)
  (go_big_quiet_want; go_big_quiet_op; go_big_quiet_on)
  (go_big_quiet_want; go_big_quiet_op; go_big_quiet_on)
  (go_big_quiet_want; go_big_quiet_op; go_big_quiet_on)
  (go_big_quiet_want; go_big_quiet_op; go_big_quiet_call (exact later_of (M1.out _)))
  (go_big_quiet_want; go_big_quiet_op; go_big_quiet_on)
  (go_big_quiet_want; go_big_quiet_op; go_big_quiet_on)
  (go_big_quiet_want; go_big_quiet_op; go_big_quiet_on)
  (go_big_quiet_want; go_big_quiet_op; go_big_quiet_on)
  (go_big_quiet_want; go_big_quiet_op; go_big_quiet_on)
  (go_big_quiet_want; go_big_quiet_op; go_big_quiet_on)
  (go_big_quiet_want; go_big_quiet_op; go_big_quiet_on)
  (go_big_quiet_want; go_big_quiet_op; go_big_quiet_on)
  (go_big_quiet_want; go_big_quiet_op; go_big_quiet_on)
  (go_big_quiet_want; go_big_quiet_op; go_big_quiet_on)
  (go_big_quiet_want; go_big_quiet_op; go_big_quiet_on)
  (go_big_quiet_want; go_big_quiet_op; go_big_quiet_on)
  (go_big_quiet_want; go_big_quiet_op; go_big_quiet_on)
  (go_big_quiet_want; go_big_quiet_op; go_big_quiet_on)
  (go_big_quiet_want; go_big_quiet_op; go_big_quiet_on)
  (go_big_quiet_want; go_big_quiet_op; go_big_quiet_on)
  (go_big_quiet_want; go_big_quiet_op; go_big_quiet_on)
  (go_big_quiet_want; go_big_quiet_op; go_big_quiet_on)
  (go_big_quiet_want; go_big_quiet_op; go_big_quiet_on)
  (go_big_quiet_want; go_big_quiet_op; go_big_quiet_on)
  (go_big_quiet_want; go_big_quiet_op; go_big_quiet_on)
  (go_big_quiet_want; go_big_quiet_op; go_big_quiet_on)
  (go_big_quiet_want; go_big_quiet_op; go_big_quiet_on)
  (go_big_quiet_want; go_big_quiet_op; go_big_quiet_call (exact later_of (DB.out _)))
  (go_big_quiet_want; go_big_quiet_op; go_big_quiet_on)
  (go_big_quiet_want; go_big_quiet_op; go_big_quiet_on)
  (go_big_quiet_want; go_big_quiet_op; go_big_quiet_on)
  refine wpQuiet_nil ?_
  refine later_end ?_
  intro k
  have HF := Lib.hid (HE.out.later k.below)
  clear HE L0 L1 L2 L3 L4 L5 L6 L7 L8 L9 c0 c1 c2 c3 c4 c5 c6 c7 b0 b1
  generalize k.wd = v at *
  obtain ⟨c0, c1, c2, c3, c4, c5, c6, c7, hg⟩ := HF.out
  clear hg
  go_wp2_with fail
  refine (SD.out _).mono ?_
  rintro e w5 ⟨rfl, hb⟩
  have HH := Lib.hid (HF.out.later hb)
  clear HF hb c0 c1 c2 c3 c4 c5 c6 c7
  by_cases hs : s = 0
  · subst hs
    have G := Lib.hid HH.out.2.2.2.2.2.2.2.2
    clear HH
    go_wp2_with fail
    refine (awake08 _).mono ?_
    rintro e w6 ⟨rfl, hb⟩
    have G2 := Lib.hid (below_on G.out hb)
    clear hb G
    go_wp2
    go_ret
    exact ⟨rfl, G2.out⟩
  · have es : (s == 0) = false := by simpa using hs
    clear hs
    have G := Lib.hid HH.out.2.2.2.2.2.2.2.2
    clear HH
    go_wp2_with fail
    refine (awake08 _).mono ?_
    rintro e w6 ⟨rfl, hb⟩
    have G2 := Lib.hid (below_on G.out hb)
    clear hb G
    go_wp2
    go_ret
    exact ⟨rfl, G2.out⟩
theorem touches_any (ax ay bx by_ cx cy dx dy : Int) (w : World) : Calls Try.prog 10 #[.agg #[.int .i64 ax, .int .i64 ay], .agg #[.int .i64 bx, .int .i64 by_], .agg #[.int .i64 cx, .int .i64 cy], .agg #[.int .i64 dx, .int .i64 dy]] w fun e w' => e = .returned (.bool true) ∧ Below w.heap.size w w' := by
  cases h : nearL [(ax, ay), (bx, by_), (cx, cy), (dx, dy)]
  · exact touches_off ax ay bx by_ cx cy dx dy w h
  · cases ho : onF ax ay bx by_ dx dy
    · exact touches_out ax ay bx by_ cx cy dx dy w h ho
    · exact touches_on ax ay bx by_ cx cy dx dy w h ho
end Go.Proofs.Ytkojdifgmppfpaa
