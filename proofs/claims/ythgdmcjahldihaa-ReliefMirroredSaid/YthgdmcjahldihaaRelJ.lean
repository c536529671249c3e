/- The contract of the law's awake (mapsheetslaw45): it returns true. -/
import Derived.Test.YthgdmcjahldihaaRelI
namespace Go.Proofs.Ythgdmcjahldihaa
open Go.RowKit
set_option linter.unusedVariables false

def zA (j : Nat) : Int := if j = 0 then 0 else if j = 1 then 4 else if j = 2 then 2 else 8
def zB (j : Nat) : Int := if j = 0 then 0 else if j = 1 then 1 else if j = 2 then 0 else 1
theorem ints4 {W : World} {B : Nat} {z : Nat → Int} (hB : B < W.heap.size) (c0 : W.cell? ⟨B, 0, none⟩ = some (.int .i64 (z 0))) (c1 : W.cell? ⟨B, 1, none⟩ = some (.int .i64 (z 1))) (c2 : W.cell? ⟨B, 2, none⟩ = some (.int .i64 (z 2))) (c3 : W.cell? ⟨B, 3, none⟩ = some (.int .i64 (z 3))) :
    Ints W W.heap.size (some ⟨B, 0, none⟩) 4 z := fun _ => ⟨B, 0, rfl, hB, fun j hj => by
  match j, hj with
  | 0, _ => exact c0
  | 1, _ => exact c1
  | 2, _ => exact c2
  | 3, _ => exact c3⟩

theorem ints1 {W : World} {B : Nat} {z : Int} (hB : B < W.heap.size) (c0 : W.cell? ⟨B, 0, none⟩ = some (.int .i64 z)) : Ints W W.heap.size (some ⟨B, 0, none⟩) 1 (fun _ => z) := fun _ => ⟨B, 0, rfl, hB, fun j hj => by
  match j, hj with
  | 0, _ => exact c0⟩

set_option maxHeartbeats 1000000 in
theorem awake45 (w : World) : Calls Try.prog 15 #[] w fun e w' => e = .returned (.bool true) ∧ Below w.heap.size w w' := by
  have I0 : Ints (w.alloc (.cells #[.int .i64 0, .int .i64 4, .int .i64 2, .int .i64 8] 3)) _ (some ⟨w.heap.size, 0, none⟩) 4 zA := ints4 (by simp) (by simp [zA]) (by simp [zA]) (by simp [zA]) (by simp [zA])
  have IB : ∀ v : World, Ints (v.alloc (.cells #[.int .i64 0, .int .i64 1, .int .i64 0, .int .i64 1] 3)) _ (some ⟨v.heap.size, 0, none⟩) 4 zB := fun v => ints4 (by simp) (by simp [zB]) (by simp [zB]) (by simp [zB]) (by simp [zB])
  have IC : ∀ v : World, Ints (v.alloc (.cells #[.int .i64 40] 3)) _ (some ⟨v.heap.size, 0, none⟩) 1 (fun _ => 40) := fun v => ints1 (by simp) (by simp)
  have I1 := Lib.hid I0
  have IB1 := Lib.hid IB
  have IC1 := Lib.hid IC
  clear I0 IB IC
  go_enter Try.func15, Try.ntmps15
  go_wp2_with fail
  refine (Slope_any 0 0 2 2 1 (some ⟨w.heap.size, 0, none⟩) 4 4 zA 0 0 _ (by omega) (I1.out.later (below_box _ _))).mono ?_
  rintro e w1 ⟨rfl, hb1⟩
  rw [show Ter.slX 0 0 2 2 1 4 zA 0 0 = 10 by decide, show Ter.slY 0 0 2 2 1 4 zA 0 0 = 6 by decide, show Ter.slE 0 0 2 2 1 4 zA 0 0 = 0 by decide]
  have A1 := Lib.hid ((I1.out.later (below_box _ _)).later hb1)
  have B1 := Lib.hid hb1
  obtain ⟨hcl, hfz⟩ := bcell hb1
  clear hb1
  go_wp2_with fail
  refine (Shade_any 0 0 2 2 1 (some ⟨w.heap.size, 0, none⟩) 4 4 zA 0 0 _ (by omega) A1.out).mono ?_
  rintro e w2 ⟨rfl, hb2⟩
  rw [show Ter.shV 0 0 2 2 1 4 zA 0 0 = 40 by decide, show Ter.slE 0 0 2 2 1 4 zA 0 0 = 0 by decide]
  have A2 := Lib.hid (A1.out.later hb2)
  have B2 := Lib.hid (below_step B1.out hb2)
  clear hcl hfz hb2 A1 B1
  obtain ⟨hcl, hfz⟩ := bcell B2.out
  go_wp2_with fail
  refine (Shade_any 0 0 2 2 1 (some ⟨w2.heap.size, 0, none⟩) 4 4 zB 0 0 _ (by omega) (IB1.out w2)).mono ?_
  rintro e w3 ⟨rfl, hb3⟩
  rw [show Ter.shV 0 0 2 2 1 4 zB 0 0 = 33 by decide, show Ter.slE 0 0 2 2 1 4 zB 0 0 = 0 by decide]
  have hx := below_step (below_box w2 _) hb3
  have A3 := Lib.hid (A2.out.later hx)
  have B3 := Lib.hid (below_step B2.out hx)
  clear hcl hfz hb3 A2 B2 hx
  obtain ⟨hcl, hfz⟩ := bcell B3.out
  go_wp2_with fail
  have hall : Calls Try.prog 20 #[hgt 0 0 2 2 1 (some ⟨w.heap.size, 0, none⟩) 4 4] w3 (PlateOut 1 1 1 (Ter.cellAt zA 2 1) w3) := All_any 0 0 2 2 1 _ 4 4 zA w3 (by omega) A3.out (by decide)
  refine hall.mono ?_
  clear hall
  rintro e w4 ⟨a, cap, rfl, hi4, hb4⟩
  have I4 := Lib.hid hi4
  have A4 := Lib.hid (A3.out.later hb4)
  have B4 := Lib.hid (below_step B3.out hb4)
  clear hcl hfz hb4 A3 B3 hi4
  have hs4 : w.heap.size + 1 < w4.heap.size := by have := B4.out.size; simp at this; omega
  obtain ⟨hcl, hfz⟩ := bcell B4.out
  go_wp2_with fail
  refine (Shade_any 0 0 2 2 1 (some ⟨w.heap.size, 0, none⟩) 4 4 zA 1 0 _ (by omega) (A4.out.later (below_box _ _))).mono ?_
  rintro e w5 ⟨rfl, hb5⟩
  rw [show Ter.shV 0 0 2 2 1 4 zA 1 0 = 0 by decide, show Ter.slE 0 0 2 2 1 4 zA 1 0 = 2 by decide]
  have hx := below_step (below_box w4 _) hb5
  have I5 := Lib.hid (I4.out.later hx)
  have B5 := Lib.hid (below_step B4.out hx)
  clear hcl hfz A4 B4 hx
  obtain ⟨hcl, hfz⟩ := bcell hb5
  clear hb5
  go_wp2_with fail
  refine (Same_yes 1 1 _ _ 1 _ _ (Ter.cellAt zA 2 1) (fun _ => 40) _ (by omega) (I5.out.later (below_box _ _)) (IC1.out _) (fun j hj => by (obtain rfl : j = 0 := by omega); decide)).mono ?_
  rintro e w6 ⟨rfl, hb6⟩
  have B6 := Lib.hid (below_step (below_step (below_step (below_step (below_box w _) (below_box _ _)) B5.out) (below_box _ _)) hb6)
  clear hb6 hcl hfz
  go_wp2
  go_ret
  exact ⟨rfl, B6.out⟩
end Go.Proofs.Ythgdmcjahldihaa
