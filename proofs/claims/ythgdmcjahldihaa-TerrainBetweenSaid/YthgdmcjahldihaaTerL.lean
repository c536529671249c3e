/- The contract of the law's awake (mapsheetslaw43): it returns true. -/
import Derived.Test.YthgdmcjahldihaaTerH
import Derived.Test.YthgdmcjahldihaaTerK
import Derived.Test.YthgdmcjahldihaaTerF
namespace Go.Proofs.Ythgdmcjahldihaa
open Go.RowKit
set_option linter.unusedVariables false

def zC (j : Nat) : Int := if j = 0 then 0 else if j = 1 then 10 else if j = 2 then 20 else 40
def zD (j : Nat) : Int := if j = 0 then 0 else if j = 1 then 1 else if j = 2 then 0 else 1
theorem ints4' {W : World} {B : Nat} {z : Nat → Int} (hB : B < W.heap.size) (c0 : W.cell? ⟨B, 0, none⟩ = some (.int .i64 (z 0))) (c1 : W.cell? ⟨B, 1, none⟩ = some (.int .i64 (z 1))) (c2 : W.cell? ⟨B, 2, none⟩ = some (.int .i64 (z 2))) (c3 : W.cell? ⟨B, 3, none⟩ = some (.int .i64 (z 3))) :
    Ints W W.heap.size (some ⟨B, 0, none⟩) 4 z := fun _ => ⟨B, 0, rfl, hB, fun j hj => by
  match j, hj with
  | 0, _ => exact c0
  | 1, _ => exact c1
  | 2, _ => exact c2
  | 3, _ => exact c3⟩
theorem pts1 {W : World} {B : Nat} {p : Int × Int} (hB : B < W.heap.size) (c0 : W.cell? ⟨B, 0, none⟩ = some (.int .i64 p.1)) (c1 : W.cell? ⟨B, 1, none⟩ = some (.int .i64 p.2)) : Pts W W.heap.size (some ⟨B, 0, none⟩) [p] := fun _ => ⟨B, 0, rfl, hB, fun j hj => by
  (obtain rfl : j = 0 := by simp at hj; omega)
  exact ⟨c0, c1⟩⟩
theorem hC1 : Ter.hgN 0 0 2 2 10 4 zC 5 1 = 8 ∧ Ter.hgD 0 0 2 2 10 4 zC 5 1 = 1 ∧ Ter.hgE 0 0 2 2 10 4 zC 5 1 = 0 := by decide +kernel
theorem hC2 : Ter.hgN 0 0 2 2 10 4 zC 1 5 = 12 ∧ Ter.hgD 0 0 2 2 10 4 zC 1 5 = 1 ∧ Ter.hgE 0 0 2 2 10 4 zC 1 5 = 0 := by decide +kernel
theorem hC3 : Ter.hgN 0 0 2 2 3 4 zD 1 0 = 1 ∧ Ter.hgD 0 0 2 2 3 4 zD 1 0 = 3 ∧ Ter.hgE 0 0 2 2 3 4 zD 1 0 = 0 := by decide +kernel
theorem hC4 : Ter.hgN 0 0 2 2 10 4 zC 11 0 = 0 ∧ Ter.hgD 0 0 2 2 10 4 zC 11 0 = 0 ∧ Ter.hgE 0 0 2 2 10 4 zC 11 0 = 7 := by decide +kernel
theorem hC5 : pkAll 0 0 2 2 10 4 zC = [(10, 10)] ∧ Ter.chk 0 0 2 2 10 4 zC = 0 := by decide +kernel
theorem hC6 : Ter.vlV 0 0 2 2 10 4 zC 1 0 = 10 ∧ Ter.vlE 0 0 2 2 10 4 zC 1 0 = 0 := by decide +kernel
theorem hC7 : exLo 0 0 2 2 10 4 zC = 0 ∧ exHi 0 0 2 2 10 4 zC = 40 ∧ Ter.chk 0 0 2 2 10 4 zC = 0 := by decide +kernel

set_option maxRecDepth 100000 in
set_option maxHeartbeats 1000000 in
theorem awake43 (w : World) : Calls Try.prog 25 #[] w fun e w' => e = .returned (.bool true) ∧ Below w.heap.size w w' := by
  have I0 : Hid (Ints (w.alloc (.cells #[.int .i64 0, .int .i64 10, .int .i64 20, .int .i64 40] 3)) _ (some ⟨w.heap.size, 0, none⟩) 4 zC) := Lib.hid (ints4' (by simp) (by simp [zC]) (by simp [zC]) (by simp [zC]) (by simp [zC]))
  have ID : Hid (∀ v : World, Ints (v.alloc (.cells #[.int .i64 0, .int .i64 1, .int .i64 0, .int .i64 1] 3)) _ (some ⟨v.heap.size, 0, none⟩) 4 zD) := Lib.hid fun v => ints4' (by simp) (by simp [zD]) (by simp [zD]) (by simp [zD]) (by simp [zD])
  have IP : Hid (∀ v : World, Pts (v.alloc (.cells #[.int .i64 10, .int .i64 10] 23)) _ (some ⟨v.heap.size, 0, none⟩) [(10, 10)]) := Lib.hid fun v => pts1 (by simp) (by simp) (by simp)
  have hm4 : 4 ≤ maxLen := by decide
  go_enter Try.func25, Try.ntmps25
  go_wp2_with fail
  refine (Height_any 0 0 2 2 10 5 1 (some ⟨w.heap.size, 0, none⟩) 4 4 zC _ (by omega) (by omega) hm4 (I0.out.later (below_box _ _))).mono ?_
  rintro e w1 ⟨rfl, hb1⟩
  rw [hC1.1, hC1.2.1, hC1.2.2]
  have A1 := Lib.hid (((I0.out.later (below_box _ _)).later hb1).later (below_box _ (.cells #[.int .i64 8, .int .i64 1] 44)))
  have B1 := Lib.hid hb1
  have hs1 : w.heap.size + 1 < w1.heap.size := by have := hb1.size; simp at this; omega
  have F1 := Lib.hid (below_step (below_step (below_step (below_box w _) (below_box _ _)) hb1) (below_box _ (.cells #[.int .i64 8, .int .i64 1] 44)))
  obtain ⟨hcl, hfz⟩ := bcell hb1
  clear hb1 I0
  go_wp2_with fail
  refine (Height_any 0 0 2 2 10 1 5 (some ⟨w.heap.size, 0, none⟩) 4 4 zC _ (by omega) (by omega) hm4 A1.out).mono ?_
  rintro e w2 ⟨rfl, hb2⟩
  rw [hC2.1, hC2.2.1, hC2.2.2]
  have A2 := Lib.hid ((A1.out.later hb2).later (below_box _ (.cells #[.int .i64 12, .int .i64 1] 44)))
  have K1 := Lib.hid (below_step hb2 (below_box _ (.cells #[.int .i64 12, .int .i64 1] 44)))
  have B2 := Lib.hid (below_step (below_step (below_step B1.out (below_box _ _)) hb2) (below_box _ (.cells #[.int .i64 12, .int .i64 1] 44)))
  have F2 := Lib.hid (below_step F1.out K1.out)
  have hs2 : w1.heap.size < w2.heap.size := by have := hb2.size; simp at this; omega
  clear hb2 hcl hfz A1 B1 F1
  go_wp2_with fail
  refine (Height_any 0 0 2 2 3 1 0 (some ⟨w2.heap.size + 1, 0, none⟩) 4 4 zD _ (by omega) (by omega) hm4 (by have := ID.out (w2.alloc (.cells #[.int .i64 12, .int .i64 1] 44)); simpa using this)).mono ?_
  rintro e w3 ⟨rfl, hb3⟩
  rw [hC3.1, hC3.2.1, hC3.2.2]
  have K2w := Lib.hid (below_step (below_box (w2.alloc (.cells #[.int .i64 12, .int .i64 1] 44)) (.cells #[.int .i64 0, .int .i64 1, .int .i64 0, .int .i64 1] 3)) hb3)
  have B3 := Lib.hid (below_step B2.out K2w.out)
  have K1w := Lib.hid (below_step K1.out K2w.out)
  have A3 := Lib.hid ((A2.out.later K2w.out).later (below_box _ (.cells #[.int .i64 1, .int .i64 3] 44)))
  have F3 := Lib.hid (below_step (below_step F2.out K2w.out) (below_box _ (.cells #[.int .i64 1, .int .i64 3] 44)))
  have hs3 : w.heap.size + 1 < w3.heap.size := by have := B3.out.size; simp at this; omega
  have hs23 : w2.heap.size < w3.heap.size := by have := K2w.out.size; simp at this; omega
  clear hb3 A2 B2 F2 ID K1
  obtain ⟨hcl, hfz⟩ := bcell B3.out
  have HPK : Hid (Calls Try.prog 33 #[hgt 0 0 2 2 10 (some ⟨w.heap.size, 0, none⟩) 4 4] (w3.alloc (.cells #[.int .i64 1, .int .i64 3] 44)) (PtsOut [(10, 10)] 0 (w3.alloc (.cells #[.int .i64 1, .int .i64 3] 44)))) := Lib.hid (by
    have h := Peaks_any 0 0 2 2 10 (some ⟨w.heap.size, 0, none⟩) 4 4 zC (w3.alloc (.cells #[.int .i64 1, .int .i64 3] 44)) (by omega) (by omega) hm4 A3.out
    rw [hC5.1, hC5.2] at h; exact h)
  go_wp2_with fail
  refine HPK.out.mono ?_
  rintro e w4 ⟨a, cap, rfl, hp4, hb4⟩
  have P4 := Lib.hid hp4
  have K3 := Lib.hid hb4
  have A4 := Lib.hid (A3.out.later hb4)
  have F4 := Lib.hid (below_step F3.out hb4)
  have B4 := Lib.hid (below_step (below_step B3.out (below_box _ (.cells #[.int .i64 1, .int .i64 3] 44))) hb4)
  clear hcl hfz hb4 hp4 HPK A3 F3
  obtain ⟨hcl, hfz⟩ := bcell B4.out
  go_wp2_with fail
  refine (tValue_any 0 0 2 2 10 (some ⟨w.heap.size, 0, none⟩) 4 4 zC 1 0 _ (by omega) (by omega) hm4 A4.out).mono ?_
  rintro e w5 ⟨rfl, hb5⟩
  rw [hC6.1, hC6.2]
  have P5 := Lib.hid (P4.out.later hb5)
  have K4 := Lib.hid (below_step K3.out hb5)
  have A5 := Lib.hid (A4.out.later hb5)
  have F5 := Lib.hid (below_step F4.out hb5)
  have B5 := Lib.hid (below_step B4.out hb5)
  clear hcl hfz hb5 A4 F4 B4 K3 P4
  obtain ⟨hcl, hfz⟩ := bcell B5.out
  go_wp2_with fail
  refine (Extent_any 0 0 2 2 10 (some ⟨w.heap.size, 0, none⟩) 4 4 zC _ (by omega) A5.out).mono ?_
  rintro e w6 ⟨rfl, hb6⟩
  rw [hC7.1, hC7.2.1, hC7.2.2]
  have P6 := Lib.hid (P5.out.later hb6)
  have K5 := Lib.hid (below_step K4.out hb6)
  have A6 := Lib.hid (A5.out.later hb6)
  have F6 := Lib.hid (below_step F5.out hb6)
  have B6 := Lib.hid (below_step B5.out hb6)
  clear hcl hfz hb6 A5 F5 B5 K4 P5
  obtain ⟨hcl, hfz⟩ := bcell B6.out
  go_wp2_with fail
  refine (Height_any 0 0 2 2 10 11 0 (some ⟨w.heap.size, 0, none⟩) 4 4 zC _ (by omega) (by omega) hm4 A6.out).mono ?_
  rintro e w7 ⟨rfl, hb7⟩
  rw [hC4.1, hC4.2.1, hC4.2.2]
  have P7 := Lib.hid ((P6.out.later hb7).later (below_box _ (.cells #[.int .i64 0, .int .i64 0] 44)))
  have K6 := Lib.hid (below_step K5.out hb7)
  have F7 := Lib.hid (below_step (below_step F6.out hb7) (below_box _ (.cells #[.int .i64 0, .int .i64 0] 44)))
  clear hcl hfz hb7 A6 F6 B6 K5 P6
  have KB := Lib.hid (below_step (below_step K2w.out (below_box _ (.cells #[.int .i64 1, .int .i64 3] 44))) K6.out)
  have KA := Lib.hid (below_step (below_step K1w.out (below_box _ (.cells #[.int .i64 1, .int .i64 3] 44))) K6.out)
  have hs7 : w3.heap.size < w7.heap.size := by have := K6.out.size; simp at this; omega
  have hs27 : w2.heap.size < w7.heap.size := by omega
  have hs17 : w1.heap.size < w7.heap.size := by omega
  have fa0 : w7.cell? ⟨w1.heap.size, 0, none⟩ = some (.int .i64 8) := by rw [(bcell KA.out).1 _ _ (by simp)]; simp
  have fa1 : w7.cell? ⟨w1.heap.size, 1, none⟩ = some (.int .i64 1) := by rw [(bcell KA.out).1 _ _ (by simp)]; simp
  have fb0 : w7.cell? ⟨w2.heap.size, 0, none⟩ = some (.int .i64 12) := by rw [(bcell KB.out).1 _ _ (by simp)]; simp
  have fb1 : w7.cell? ⟨w2.heap.size, 1, none⟩ = some (.int .i64 1) := by rw [(bcell KB.out).1 _ _ (by simp)]; simp
  have fc0 : w7.cell? ⟨w3.heap.size, 0, none⟩ = some (.int .i64 1) := by rw [(bcell K6.out).1 _ _ (by simp)]; simp
  have fc1 : w7.cell? ⟨w3.heap.size, 1, none⟩ = some (.int .i64 3) := by rw [(bcell K6.out).1 _ _ (by simp)]; simp
  have IQ : Hid (Pts ((w7.alloc (.cells #[.int .i64 0, .int .i64 0] 44)).alloc (.cells #[.int .i64 10, .int .i64 10] 23)) ((w7.alloc (.cells #[.int .i64 0, .int .i64 0] 44)).alloc (.cells #[.int .i64 10, .int .i64 10] 23)).heap.size (some ⟨w7.heap.size + 1, 0, none⟩) [(10, 10)]) := Lib.hid (by have := IP.out (w7.alloc (.cells #[.int .i64 0, .int .i64 0] 44)); simpa using this)
  clear KA KB K6 K1w K2w B3 IP
  have HSM := Lib.hid (Same_pts [(10, 10)] a (some ⟨w7.heap.size + 1, 0, none⟩) cap 1 _ (by simp) (P7.out.later (below_box _ (.cells #[.int .i64 10, .int .i64 10] 23))) IQ.out)
  go_wp2_with fail
  refine HSM.out.mono ?_
  rintro e w8 ⟨rfl, hb8⟩
  have F8 := Lib.hid (below_step (below_step F7.out (below_box _ _)) hb8)
  clear hb8 fa0 fa1 fb0 fb1 fc0 fc1
  go_wp2
  go_ret
  exact ⟨rfl, F8.out⟩
end Go.Proofs.Ythgdmcjahldihaa
