/- The contracts of the references' Value (mapsheetsref43), Slope and Shade (mapsheetsref45). -/
import Derived.Test.YthgdmcjahldihaaNumB
import Derived.Test.YthgdmcjahldihaaRelC
namespace Go.Proofs.Ythgdmcjahldihaa
open Go.RowKit
open Num
set_option linter.unusedVariables false
theorem ret_bool {a b : Bool} (h : a = b) : Ending.returned (.bool a) = .returned (.bool b) := by rw [h]

set_option maxHeartbeats 400000 in
theorem there_yes (x y W H S : Int) (A : Option Addr) (n c : Nat) (col row : Int) (w : World) (h1 : 0 ≤ col) (h2 : col < W) (h3 : 0 ≤ row) (h4 : row < H) :
    Calls Try.prog 45 #[hgt x y W H S A n c, .int .i64 col, .int .i64 row] w fun e w' => e = .returned (.bool true) ∧ Below w.heap.size w w' := by
  unfold hgt
  go_enter Try.func45, Try.ntmps45
  go_wp2
  go_ret
  exact ⟨rfl, by go_grown⟩
set_option maxHeartbeats 400000 in
theorem there_no (x y W H S : Int) (A : Option Addr) (n c : Nat) (col row : Int) (w : World) (h : ¬ ((0 ≤ col ∧ col < W) ∧ 0 ≤ row ∧ row < H)) :
    Calls Try.prog 45 #[hgt x y W H S A n c, .int .i64 col, .int .i64 row] w fun e w' => e = .returned (.bool false) ∧ Below w.heap.size w w' := by
  unfold hgt
  have HI := Lib.hid h
  clear h
  go_enter Try.func45, Try.ntmps45
  go_wp2
  all_goals
    have hno := HI.out
    go_ret
    exact ⟨ret_bool (by first | rfl | (simp; omega)), by go_grown⟩

set_option maxHeartbeats 1000000 in
theorem rValue_err (x y W H S : Int) (A : Option Addr) (n c : Nat) (z : Nat → Int) (col row : Int) (w : World) (hn : n ≤ 4200) (hA : Ints w w.heap.size A n z) (h : Ter.chk x y W H S n z ≠ 0) :
    Calls Try.prog 27 #[hgt x y W H S A n c, .int .i64 col, .int .i64 row] w fun e w' => e = .returned (.tuple #[.int .i64 0, .int .i64 (Ter.chk x y W H S n z)]) ∧ Below w.heap.size w w' := by
  have hb : (Ter.chk x y W H S n z != 0) = true := by simpa using h
  unfold hgt
  go_enter Try.func27, Try.ntmps27
  go_wp2_with fail
  refine (rcheck_any _ _ _ _ _ _ _ _ z _ hn (hA.later (below_box _ _))).mono ?_
  rintro e w1 ⟨rfl, hb1⟩
  have hfin := Lib.hid (below_step (below_box w _) hb1)
  clear hb1
  go_wp2
  go_ret2
  exact ⟨rfl, hfin.out⟩
set_option maxHeartbeats 1000000 in
theorem rValue_out (x y W H S : Int) (A : Option Addr) (n c : Nat) (z : Nat → Int) (col row : Int) (w : World) (hn : n ≤ 4200) (hA : Ints w w.heap.size A n z) (h : Ter.chk x y W H S n z = 0) (h' : ¬ Ter.In1 W H col row) :
    Calls Try.prog 27 #[hgt x y W H S A n c, .int .i64 col, .int .i64 row] w fun e w' => e = .returned (.tuple #[.int .i64 0, .int .i64 7]) ∧ Below w.heap.size w w' := by
  have HC := Lib.hid h
  have HI := Lib.hid h'
  clear h h'
  unfold hgt
  go_enter Try.func27, Try.ntmps27
  go_wp2_with fail
  refine (rcheck_any _ _ _ _ _ _ _ _ z _ hn (hA.later (below_box _ _))).mono ?_
  rintro e w1 ⟨rfl, hb1⟩
  rw [HC.out]
  have hfin := Lib.hid (below_step (below_box w _) hb1)
  obtain ⟨hcl, hfz⟩ := bcell hb1
  clear hb1
  go_wp2_with fail
  refine (there_no _ _ _ _ _ _ _ _ _ _ _ HI.out).mono ?_
  rintro e w2 ⟨rfl, hb2⟩
  have hf2 := Lib.hid (below_step hfin.out hb2)
  clear hb2 hcl hfz
  go_wp2
  go_ret2
  exact ⟨rfl, hf2.out⟩
set_option maxHeartbeats 1000000 in
theorem rValue_in (x y W H S : Int) (A : Option Addr) (n c : Nat) (z : Nat → Int) (col row : Int) (w : World) (hn : n ≤ 4200) (hA : Ints w w.heap.size A n z) (h : Ter.chk x y W H S n z = 0) (h' : Ter.In1 W H col row) :
    Calls Try.prog 27 #[hgt x y W H S A n c, .int .i64 col, .int .i64 row] w fun e w' => e = .returned (.tuple #[.int .i64 (z (row * W + col).toNat), .int .i64 0]) ∧ Below w.heap.size w w' := by
  obtain ⟨f1, f2, f3, f4, f5, f6, f7, f8, f9⟩ := Ter.in1_facts h h'
  obtain ⟨⟨c1, c2⟩, r1, r2⟩ := h'
  have HC := Lib.hid h
  obtain ⟨b, off, rfl, hb, hcell⟩ := hA (by omega)
  have HA : Ints w w.heap.size (some ⟨b, off, none⟩) n z := fun _ => ⟨b, off, rfl, hb, hcell⟩
  have hc0 := Lib.hid (hcell _ f5)
  clear h hcell hA
  unfold hgt
  go_enter Try.func27, Try.ntmps27
  go_wp2_with fail
  refine (rcheck_any _ _ _ _ _ _ _ _ z _ hn (HA.later (below_box _ _))).mono ?_
  rintro e w1 ⟨rfl, hb1⟩
  rw [HC.out]
  have hf1 := Lib.hid (below_step (below_box w _) hb1)
  obtain ⟨hcl, hfz⟩ := bcell hb1
  have hs1 := hb1.size
  simp at hs1
  go_wp2_with fail
  refine (there_yes _ _ _ _ _ _ _ _ _ _ _ c1 c2 r1 r2).mono ?_
  rintro e w2 ⟨rfl, hb2⟩
  have hfin := Lib.hid (below_step hf1.out hb2)
  have hall := below_step hb1 hb2
  clear hb1 hb2 hcl hfz
  obtain ⟨hcl, hfz⟩ := bcell hall
  have hc2 := hc0.out
  clear hall
  go_wp2
  go_ret2
  exact ⟨rfl, hfin.out⟩
theorem rValue_any (x y W H S : Int) (A : Option Addr) (n c : Nat) (z : Nat → Int) (col row : Int) (w : World) (hn : n ≤ 4200) (hA : Ints w w.heap.size A n z) :
    Calls Try.prog 27 #[hgt x y W H S A n c, .int .i64 col, .int .i64 row] w fun e w' => e = .returned (.tuple #[.int .i64 (Ter.vlV x y W H S n z col row), .int .i64 (Ter.vlE x y W H S n z col row)]) ∧ Below w.heap.size w w' := by
  by_cases h : Ter.chk x y W H S n z = 0
  · by_cases h' : Ter.In1 W H col row
    · rw [(Ter.vl_in h h').1, (Ter.vl_in h h').2]; exact rValue_in x y W H S A n c z col row w hn hA h h'
    · rw [(Ter.vl_out h h').1, (Ter.vl_out h h').2]; exact rValue_out x y W H S A n c z col row w hn hA h h'
  · rw [(Ter.vl_err (col := col) (row := row) h).1, (Ter.vl_err (col := col) (row := row) h).2]; exact rValue_err x y W H S A n c z col row w hn hA h
end Go.Proofs.Ythgdmcjahldihaa
