/- TerrainHeights returns true for every grid and point: the walk. -/
import Derived.Test.YthgdmcjahldihaaTerN
import Derived.Test.YthgdmcjahldihaaTerL
namespace Go.Proofs.Ythgdmcjahldihaa
open Go.RowKit
set_option linter.unusedVariables false

set_option maxHeartbeats 1000000 in
theorem heights_no (x y W H S px py : Int) (A : Option Addr) (n c : Nat) (w : World) (hn : ¬ n ≤ 4200) :
    Calls Try.prog 9 #[hgt x y W H S A n c, .agg #[.int .i64 px, .int .i64 py]] w fun e w' => e = .returned (.bool true) ∧ Below w.heap.size w w' := by
  unfold hgt
  go_enter Try.func9, Try.ntmps9
  go_wp2_with fail
  refine (light_no _ _ _ _ _ _ _ _ _ hn).mono ?_
  rintro e w1 ⟨rfl, hb1⟩
  have F := Lib.hid (below_step (below_step (below_box w _) (below_box _ _)) hb1)
  clear hb1
  go_wp2_with fail
  refine (awake43 _).mono ?_
  rintro e w2 ⟨rfl, hb2⟩
  have F2 := Lib.hid (below_step F.out hb2)
  clear hb2
  go_wp2
  go_ret
  exact ⟨rfl, F2.out⟩
set_option maxHeartbeats 1000000 in
theorem heights_yes (x y W H S px py : Int) (A : Option Addr) (n c : Nat) (z : Nat → Int) (w : World) (hn : n ≤ 4200) (hcap : n ≤ c) (hcm : c ≤ maxLen) (hA : Ints w w.heap.size A n z) :
    Calls Try.prog 9 #[hgt x y W H S A n c, .agg #[.int .i64 px, .int .i64 py]] w fun e w' => e = .returned (.bool true) ∧ Below w.heap.size w w' := by
  have HV := Lib.hid (fun v => Height_any x y W H S px py A n c z v hn hcap hcm)
  have HR := Lib.hid (fun v => rHeight_any x y W H S px py A n c z v hn)
  generalize Ter.hgN x y W H S n z px py = e1 at *
  generalize Ter.hgD x y W H S n z px py = e2 at *
  generalize Ter.hgE x y W H S n z px py = e3 at *
  unfold hgt at HV HR
  unfold hgt
  have H0 := Lib.hid hA
  clear hA
  go_enter Try.func9, Try.ntmps9
  go_wp2_with fail
  refine (light_yes _ _ _ _ _ _ _ _ _ hn).mono ?_
  rintro e w1 ⟨rfl, hb1⟩
  have A1 := Lib.hid (((H0.out.later (below_box _ _)).later (below_box _ _)).later hb1)
  have F1 := Lib.hid (below_step (below_step (below_box w _) (below_box _ _)) hb1)
  have B1 := Lib.hid hb1
  obtain ⟨hcl, hfz⟩ := bcell hb1
  clear hb1
  go_wp2_with fail
  refine (HV.out _ A1.out).mono ?_
  rintro e w2 ⟨rfl, hb2⟩
  have A2 := Lib.hid ((A1.out.later hb2).later (below_box _ (.cells #[.int .i64 e1, .int .i64 e2] 44)))
  have F2 := Lib.hid (below_step F1.out hb2)
  have B2 := Lib.hid (below_step B1.out hb2)
  have hs2 : w.heap.size < w2.heap.size := by have := B2.out.size; simp at this; omega
  have hs2' : w.heap.size + 1 < w2.heap.size := by have := B2.out.size; simp at this; omega
  clear hcl hfz hb2
  obtain ⟨hcl, hfz⟩ := bcell B2.out
  go_wp2_with fail
  refine (HR.out _ A2.out).mono ?_
  rintro e w3 ⟨rfl, hb3⟩
  have F3 := Lib.hid (below_step (below_step F2.out (below_box _ _)) hb3)
  have hs3 : w2.heap.size < w3.heap.size := by have := hb3.size; simp at this; omega
  have K3 := Lib.hid hb3
  clear hcl hfz hb3
  go_wp2_with fail
  refine (awake43 _).mono ?_
  rintro e w4 ⟨rfl, hb4⟩
  have F4 := Lib.hid (below_step (below_step F3.out (below_box _ _)) hb4)
  have y0 : w4.cell? ⟨w2.heap.size, 0, none⟩ = some (.int .i64 e1) := by rw [(bcell hb4).1 _ _ (by simp; omega), World.cell?_alloc_past _ _ _ (by show w2.heap.size < _; omega), (bcell K3.out).1 _ _ (by simp)]; simp
  have y1 : w4.cell? ⟨w2.heap.size, 1, none⟩ = some (.int .i64 e2) := by rw [(bcell hb4).1 _ _ (by simp; omega), World.cell?_alloc_past _ _ _ (by show w2.heap.size < _; omega), (bcell K3.out).1 _ _ (by simp)]; simp
  have y2 : w4.cell? ⟨w3.heap.size, 0, none⟩ = some (.int .i64 e1) := by rw [(bcell hb4).1 _ _ (by simp)]; simp
  have y3 : w4.cell? ⟨w3.heap.size, 1, none⟩ = some (.int .i64 e2) := by rw [(bcell hb4).1 _ _ (by simp)]; simp
  clear hb4
  go_wp2
  go_ret
  exact ⟨rfl, F4.out⟩
theorem heights_any (x y W H S : Int) (A : Option Addr) (n c : Nat) (z : Nat → Int) (px py : Int) (w : World) (hcap : n ≤ c) (hcm : c ≤ maxLen) (hA : Ints w w.heap.size A n z) :
    Calls Try.prog 9 #[hgt x y W H S A n c, .agg #[.int .i64 px, .int .i64 py]] w fun e w' => e = .returned (.bool true) ∧ Below w.heap.size w w' := by
  by_cases hn : n ≤ 4200
  · exact heights_yes x y W H S px py A n c z w hn hcap hcm hA
  · exact heights_no x y W H S px py A n c w hn
end Go.Proofs.Ythgdmcjahldihaa
