/- TerrainPeaks returns true: the walk. -/
import Derived.Test.YthgdmcjahldihaaTerS
import Derived.Test.YthgdmcjahldihaaTerL
namespace Go.Proofs.Ythgdmcjahldihaa
open Go.RowKit
set_option linter.unusedVariables false
set_option maxRecDepth 100000 in
set_option maxHeartbeats 1000000 in
theorem peaks_no (x y W H S : Int) (A : Option Addr) (n c : Nat) (w : World) (hn : ¬ n ≤ 4200) :
    Calls Try.prog 10 #[hgt x y W H S A n c] w fun e w' => e = .returned (.bool true) ∧ Below w.heap.size w w' := by
  unfold hgt
  go_enter Try.func10, Try.ntmps10
  go_wp2_with fail
  refine (light_no _ _ _ _ _ _ _ _ _ hn).mono ?_
  rintro e w1 ⟨rfl, hb1⟩
  have F := Lib.hid (below_step (below_box w _) hb1)
  clear hb1
  go_wp2_with fail
  refine (awake43 _).mono ?_
  rintro e w2 ⟨rfl, hb2⟩
  have F2 := Lib.hid (below_step F.out hb2)
  clear hb2
  go_wp2
  go_ret
  exact ⟨rfl, F2.out⟩
set_option maxRecDepth 100000 in
set_option maxHeartbeats 2000000 in
theorem peaks_yes (x y W H S : Int) (A : Option Addr) (n c : Nat) (z : Nat → Int) (w : World) (hn : n ≤ 4200) (hcap : n ≤ c) (hcm : c ≤ maxLen) (hA : Ints w w.heap.size A n z) :
    Calls Try.prog 10 #[hgt x y W H S A n c] w fun e w' => e = .returned (.bool true) ∧ Below w.heap.size w w' := by
  have HI := Lib.hid hA
  clear hA
  have T1 := Lib.hid (fun v => Peaks_any x y W H S A n c z v hn hcap hcm)
  have T2 := Lib.hid (fun v => rPeaks_any x y W H S A n c z v hn)
  have hpl := pkAll_len2 (x := x) (y := y) (W := W) (H := H) (S := S) (n := n) (z := z) hn
  generalize Ter.chk x y W H S n z = E at *
  generalize pkAll x y W H S n z = L at *
  have eE : (E == E) = true := by simp
  unfold hgt at T1 T2 ⊢
  go_enter Try.func10, Try.ntmps10
  go_wp2_with fail
  refine (light_yes _ _ _ _ _ _ _ _ _ hn).mono ?_
  rintro e w1 ⟨rfl, hb1⟩
  have A1 := Lib.hid ((HI.out.later (below_box _ _)).later hb1)
  have F1 := Lib.hid (below_step (below_box w _) hb1)
  have B1 := Lib.hid hb1
  obtain ⟨hcl, hfz⟩ := bcell hb1
  clear hb1
  go_wp2_with fail
  refine (T1.out _ A1.out).mono ?_
  rintro e w2 ⟨a1, ca1, rfl, hp, hb⟩
  have P2 := Lib.hid hp
  have A2 := Lib.hid (A1.out.later hb)
  have B2 := Lib.hid (below_step B1.out hb)
  have F2 := Lib.hid (below_step F1.out hb)
  clear hp hb hcl hfz A1 B1 F1
  obtain ⟨hcl, hfz⟩ := bcell B2.out
  go_wp2_with fail
  refine (T2.out _ A2.out).mono ?_
  rintro e w3 ⟨a2, ca2, rfl, hp, hb⟩
  have P3 := Lib.hid (P2.out.later hb)
  have Q3 := Lib.hid hp
  have F3 := Lib.hid (below_step F2.out hb)
  clear hp hb hcl hfz A2 B2 F2 P2
  go_wp2_with fail
  refine (awake43 _).mono ?_
  rintro e w4 ⟨rfl, hb⟩
  have P4 := Lib.hid (P3.out.later hb)
  have Q4 := Lib.hid (Q3.out.later hb)
  have F4 := Lib.hid (below_step F3.out hb)
  clear hb P3 Q3 F3
  go_wp2_with fail
  refine (Same_pts L a1 a2 ca1 ca2 _ (by omega) P4.out Q4.out).mono ?_
  rintro e w5 ⟨rfl, hb⟩
  have F5 := Lib.hid (below_step F4.out hb)
  clear hb P4 Q4 F4
  go_wp2
  go_ret
  exact ⟨rfl, F5.out⟩
theorem peaks_any (x y W H S : Int) (A : Option Addr) (n c : Nat) (z : Nat → Int) (w : World) (hcap : n ≤ c) (hcm : c ≤ maxLen) (hA : Ints w w.heap.size A n z) :
    Calls Try.prog 10 #[hgt x y W H S A n c] w fun e w' => e = .returned (.bool true) ∧ Below w.heap.size w w' := by
  by_cases hn : n ≤ 4200
  · exact peaks_yes x y W H S A n c z w hn hcap hcm hA
  · exact peaks_no x y W H S A n c w hn
end Go.Proofs.Ythgdmcjahldihaa
