/- The contract of relief.slope: the differences of heights across a cell. -/
import Derived.Test.YthgdmcjahldihaaTerD
import Derived.Test.YthgdmcjahldihaaRelPlain
import Derived.Deep.RegionHeld3
namespace Go.Proofs.Ythgdmcjahldihaa
open Go.RowKit
set_option linter.unusedVariables false

set_option maxHeartbeats 1000000 in
theorem slope_any (x y H S : Int) (b off n c m r k i : Nat) (z : Nat → Int) (w : World) (hb : b < w.heap.size) (hm : m ≤ 64) (hn : n ≤ 4200)
    (hi : (r : Int) * m + k = i) (hin : i + m + 1 < n) (hr : (r : Int) * m ≤ 4096) (hr0 : 0 ≤ (r : Int) * m) (hk : k ≤ 64)
    (hc : ∀ j, j < n → w.cell? ⟨b, off + j, none⟩ = some (.int .i64 (z j))) (hz : ∀ j, j < n → -10000 ≤ z j ∧ z j ≤ 10000) :
    Calls Try.prog 38 #[hgt x y m H S (some ⟨b, off, none⟩) n c, .int .i64 k, .int .i64 r] w fun e w' => e = .returned (.tuple #[.int .i64 (Ter.dxF z m i), .int .i64 (Ter.dyF z m i)]) ∧ Below w.heap.size w w' := by
  unfold hgt Ter.dxF Ter.dyF
  have HI := Lib.hid hi
  have c0 := hc i (by omega)
  have c1 := hc (i + 1) (by omega)
  have c2 := hc (i + m) (by omega)
  have c3 := hc (i + m + 1) (by omega)
  obtain ⟨z0, z0'⟩ := hz i (by omega)
  obtain ⟨z1, z1'⟩ := hz (i + 1) (by omega)
  obtain ⟨z2, z2'⟩ := hz (i + m) (by omega)
  obtain ⟨z3, z3'⟩ := hz (i + m + 1) (by omega)
  clear hc hz hi
  have q0 : (0 : Int) ≤ (i : Int) := by omega
  have q1 : (i : Int) < (n : Int) := by omega
  have q2 : (0 : Int) ≤ (i : Int) + 1 := by omega
  have q3 : (i : Int) + 1 < (n : Int) := by omega
  have q4 : (0 : Int) ≤ (i : Int) + m := by omega
  have q5 : (i : Int) + m < (n : Int) := by omega
  have q6 : (0 : Int) ≤ (i : Int) + m + 1 := by omega
  have q7 : (i : Int) + m + 1 < (n : Int) := by omega
  go_enter Try.func38, Try.ntmps38
  go_wp2
  rw [HI.out]
  have s1 : IntKind.i64.wrap ((i : Int) + 1) = (i : Int) + 1 := IntWalk.i64_in _ (by omega)
  have s2 : IntKind.i64.wrap ((i : Int) + m) = (i : Int) + m := IntWalk.i64_in _ (by omega)
  have s3 : IntKind.i64.wrap ((i : Int) + m + 1) = (i : Int) + m + 1 := IntWalk.i64_in _ (by omega)
  have t1 : ((i : Int) + 1).toNat = i + 1 := by omega
  have t2 : ((i : Int) + m).toNat = i + m := by omega
  have t3 : ((i : Int) + m + 1).toNat = i + m + 1 := by omega
  go_region_held3 (fun w' => w'.cell? ⟨w.heap.size, 5, none⟩ = some (.slice (some ⟨b, off, none⟩) n c) ∧ w'.cell? ⟨w.heap.size, 2, none⟩ = some (.int .i64 m) ∧
      w'.cell? ⟨b, off + i, none⟩ = some (.int .i64 (z i)) ∧ w'.cell? ⟨b, off + (i + 1), none⟩ = some (.int .i64 (z (i + 1))) ∧ w'.cell? ⟨b, off + (i + m), none⟩ = some (.int .i64 (z (i + m))) ∧ w'.cell? ⟨b, off + (i + m + 1), none⟩ = some (.int .i64 (z (i + m + 1))))
    (first | go_keep)
    (first | fail)
  rename_i hHeld
  clear hHeld s1 s2 s3 t1 t2 t3 q0 q1 q2 q3 q4 q5 q6 q7
  go_wp2
  go_ret2
  exact ⟨rfl, by go_grown⟩
end Go.Proofs.Ythgdmcjahldihaa
