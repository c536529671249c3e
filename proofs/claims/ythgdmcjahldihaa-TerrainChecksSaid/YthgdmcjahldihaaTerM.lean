/- TerrainChecks returns true for every grid and all numbers: the walk. -/
import Derived.Test.YthgdmcjahldihaaTerL
import Derived.Test.YthgdmcjahldihaaRelD
namespace Go.Proofs.Ythgdmcjahldihaa
open Go.RowKit
set_option linter.unusedVariables false

/-- a call that only adds memory, from a world in which a box of six cells and all that is older stays as it is -/
theorem boxKeep {B : Nat} {w0 wv : World} {v0 v1 v2 v3 v4 v5 : Value} {f : Nat} {args : Array Value} {E : Ending} (hB : B < w0.heap.size)
    (h0 : wv.cell? ⟨B, 0, none⟩ = some v0) (h1 : wv.cell? ⟨B, 1, none⟩ = some v1) (h2 : wv.cell? ⟨B, 2, none⟩ = some v2) (h3 : wv.cell? ⟨B, 3, none⟩ = some v3) (h4 : wv.cell? ⟨B, 4, none⟩ = some v4) (h5 : wv.cell? ⟨B, 5, none⟩ = some v5)
    (hb : Below w0.heap.size w0 wv) (hc : Calls Try.prog f args wv fun e w' => e = E ∧ Below wv.heap.size wv w') :
    Calls Try.prog f args wv fun e w' => e = E ∧ w'.cell? ⟨B, 0, none⟩ = some v0 ∧ w'.cell? ⟨B, 1, none⟩ = some v1 ∧ w'.cell? ⟨B, 2, none⟩ = some v2 ∧ w'.cell? ⟨B, 3, none⟩ = some v3 ∧ w'.cell? ⟨B, 4, none⟩ = some v4 ∧ w'.cell? ⟨B, 5, none⟩ = some v5 ∧ Below w0.heap.size w0 w' := by
  have hs : B < wv.heap.size := by have := hb.size; omega
  exact hc.mono fun e w' ⟨he, hb'⟩ => ⟨he, cell_in hb' h0 hs, cell_in hb' h1 hs, cell_in hb' h2 hs, cell_in hb' h3 hs, cell_in hb' h4 hs, cell_in hb' h5 hs, below_step hb hb'⟩

set_option maxHeartbeats 1000000 in
theorem checks_no (x y W H S : Int) (A : Option Addr) (n c : Nat) (col row : Int) (w : World) (hn : ¬ n ≤ 4200) :
    Calls Try.prog 8 #[hgt x y W H S A n c, .int .i64 col, .int .i64 row] w fun e w' => e = .returned (.bool true) ∧ Below w.heap.size w w' := by
  unfold hgt
  go_enter Try.func8, Try.ntmps8
  go_wp2_with fail
  refine (light_no _ _ _ _ _ _ _ _ _ hn).mono ?_
  rintro e w1 ⟨rfl, hb1⟩
  have F := Lib.hid (below_step (below_box w _) hb1)
  clear hb1
  go_wp2_with fail
  refine (awake43 _).mono ?_
  rintro e w2 ⟨rfl, hb2⟩
  have F2 := Lib.hid (below_step F.out hb2)
  clear hb2
  go_wp2
  go_ret
  exact ⟨rfl, F2.out⟩
set_option maxRecDepth 100000 in
set_option maxHeartbeats 1000000 in
theorem checks_yes (x y W H S : Int) (A : Option Addr) (n c : Nat) (z : Nat → Int) (col row : Int) (w : World) (hn : n ≤ 4200) (hcap : n ≤ c) (hcm : c ≤ maxLen) (hA : Ints w w.heap.size A n z) :
    Calls Try.prog 8 #[hgt x y W H S A n c, .int .i64 col, .int .i64 row] w fun e w' => e = .returned (.bool true) ∧ Below w.heap.size w w' := by
  have HV := Lib.hid (fun v => tValue_any x y W H S A n c z col row v hn hcap hcm)
  have HR := Lib.hid (fun v => rValue_any x y W H S A n c z col row v hn)
  have HD := Lib.hid (fun v => Extent_any x y W H S A n c z v hn)
  have HE := Lib.hid (fun v => rExtent_any x y W H S A n c z v hn)
  have HT := Lib.hid (fun v => tcheck_any x y W H S A n c z v hn)
  have HU := Lib.hid (fun v => rcheck_any x y W H S A n c z v hn)
  generalize Ter.vlV x y W H S n z col row = e1 at *
  generalize Ter.vlE x y W H S n z col row = e2 at *
  generalize exLo x y W H S n z = e3 at *
  generalize exHi x y W H S n z = e4 at *
  generalize Ter.chk x y W H S n z = e5 at *
  unfold hgt at HV HR HD HE HT HU
  unfold hgt
  have H0 := Lib.hid hA
  clear hA
  go_enter Try.func8, Try.ntmps8
  go_wp2_with fail
  refine (light_yes _ _ _ _ _ _ _ _ _ hn).mono ?_
  rintro e w1 ⟨rfl, hb1⟩
  have A1 := Lib.hid ((H0.out.later (below_box _ _)).later hb1)
  have F1 := Lib.hid (below_step (below_box w _) hb1)
  have B1 := Lib.hid hb1
  obtain ⟨hcl, hfz⟩ := bcell hb1
  clear hb1
  go_wp2_with fail
  refine (HV.out _ A1.out).mono ?_
  rintro e w2 ⟨rfl, hb2⟩
  have A2 := Lib.hid (A1.out.later hb2)
  have F2 := Lib.hid (below_step F1.out hb2)
  have B2 := Lib.hid (below_step B1.out hb2)
  clear hcl hfz hb2
  obtain ⟨hcl, hfz⟩ := bcell B2.out
  go_wp2_with fail
  refine (HR.out _ A2.out).mono ?_
  rintro e w3 ⟨rfl, hb2⟩
  have A3 := Lib.hid (A2.out.later hb2)
  have F3 := Lib.hid (below_step F2.out hb2)
  have B3 := Lib.hid (below_step B2.out hb2)
  clear hcl hfz hb2
  obtain ⟨hcl, hfz⟩ := bcell B3.out
  go_wp2_with fail
  refine (HD.out _ A3.out).mono ?_
  rintro e w4 ⟨rfl, hb2⟩
  have A4 := Lib.hid (A3.out.later hb2)
  have F4 := Lib.hid (below_step F3.out hb2)
  have B4 := Lib.hid (below_step B3.out hb2)
  clear hcl hfz hb2
  obtain ⟨hcl, hfz⟩ := bcell B4.out
  go_wp2_with fail
  refine (HE.out _ A4.out).mono ?_
  rintro e w5 ⟨rfl, hb2⟩
  have A5 := Lib.hid (A4.out.later hb2)
  have F5 := Lib.hid (below_step F4.out hb2)
  have B5 := Lib.hid (below_step B4.out hb2)
  have hs5 : w.heap.size < w5.heap.size := by have := B5.out.size; simp at this; omega
  clear hcl hfz hb2 A1 A2 A3 A4 F1 F2 F3 F4 B1 B2 B3 B4
  go_wp2_with fail
  have c0 : w5.cell? ⟨w.heap.size, 0, none⟩ = some (.int .i64 x) := by rw [(bcell B5.out).1 _ _ (by simp)]; simp
  have c1 : w5.cell? ⟨w.heap.size, 1, none⟩ = some (.int .i64 y) := by rw [(bcell B5.out).1 _ _ (by simp)]; simp
  have c2 : w5.cell? ⟨w.heap.size, 2, none⟩ = some (.int .i64 W) := by rw [(bcell B5.out).1 _ _ (by simp)]; simp
  have c3 : w5.cell? ⟨w.heap.size, 3, none⟩ = some (.int .i64 H) := by rw [(bcell B5.out).1 _ _ (by simp)]; simp
  have c4 : w5.cell? ⟨w.heap.size, 4, none⟩ = some (.int .i64 S) := by rw [(bcell B5.out).1 _ _ (by simp)]; simp
  have c5 : w5.cell? ⟨w.heap.size, 5, none⟩ = some (.slice A n c) := by rw [(bcell B5.out).1 _ _ (by simp)]; simp
  have bl : Below w5.heap.size w5 w5.drew := below_drew (Below.refl _ _) 1
  go_region_held3 (fun w' => w'.cell? ⟨w.heap.size, 0, none⟩ = some (.int .i64 x) ∧ w'.cell? ⟨w.heap.size, 1, none⟩ = some (.int .i64 y) ∧ w'.cell? ⟨w.heap.size, 2, none⟩ = some (.int .i64 W) ∧ w'.cell? ⟨w.heap.size, 3, none⟩ = some (.int .i64 H) ∧ w'.cell? ⟨w.heap.size, 4, none⟩ = some (.int .i64 S) ∧ w'.cell? ⟨w.heap.size, 5, none⟩ = some (.slice A n c) ∧ Below w5.heap.size w5 w')
    (first | (exact ⟨k0, k1, k2, k3, k4, k5, kb⟩) | (exact ⟨c0, c1, c2, c3, c4, c5, bl⟩) | go_keep)
    (first
      | (go_at_call 25; (refine (boxKeep (B := w.heap.size) (w0 := w5) (v0 := .int .i64 x) (v1 := .int .i64 y) (v2 := .int .i64 W) (v3 := .int .i64 H) (v4 := .int .i64 S) (v5 := .slice A n c) hs5 ?_ ?_ ?_ ?_ ?_ ?_ ?_ (awake43 _)).mono ?_); (first | exact k0 | exact c0); (first | exact k1 | exact c1); (first | exact k2 | exact c2); (first | exact k3 | exact c3); (first | exact k4 | exact c4); (first | exact k5 | exact c5); (first | exact kb | exact bl); rintro e w' ⟨rfl, k0, k1, k2, k3, k4, k5, kb⟩)
      | (go_at_call 30; (refine (boxKeep (B := w.heap.size) (w0 := w5) (v0 := .int .i64 x) (v1 := .int .i64 y) (v2 := .int .i64 W) (v3 := .int .i64 H) (v4 := .int .i64 S) (v5 := .slice A n c) hs5 ?_ ?_ ?_ ?_ ?_ ?_ ?_ (HT.out _ (A5.out.later kb))).mono ?_); exact k0; exact k1; exact k2; exact k3; exact k4; exact k5; exact kb; rintro e w' ⟨rfl, k0, k1, k2, k3, k4, k5, kb⟩)
      | (go_at_call 23; (refine (boxKeep (B := w.heap.size) (w0 := w5) (v0 := .int .i64 x) (v1 := .int .i64 y) (v2 := .int .i64 W) (v3 := .int .i64 H) (v4 := .int .i64 S) (v5 := .slice A n c) hs5 ?_ ?_ ?_ ?_ ?_ ?_ ?_ (HU.out _ (A5.out.later kb))).mono ?_); exact k0; exact k1; exact k2; exact k3; exact k4; exact k5; exact kb; rintro e w' ⟨rfl, k0, k1, k2, k3, k4, k5, kb⟩))
  have F6 := Lib.hid (below_step F5.out kb)
  clear kb k0 k1 k2 k3 k4 k5 c0 c1 c2 c3 c4 c5 bl
  go_wp2
  go_ret
  exact ⟨rfl, F6.out⟩
theorem checks_any (x y W H S : Int) (A : Option Addr) (n c : Nat) (z : Nat → Int) (col row : Int) (w : World) (hcap : n ≤ c) (hcm : c ≤ maxLen) (hA : Ints w w.heap.size A n z) :
    Calls Try.prog 8 #[hgt x y W H S A n c, .int .i64 col, .int .i64 row] w fun e w' => e = .returned (.bool true) ∧ Below w.heap.size w w' := by
  by_cases hn : n ≤ 4200
  · exact checks_yes x y W H S A n c z col row w hn hcap hcm hA
  · exact checks_no x y W H S A n c col row w hn
end Go.Proofs.Ythgdmcjahldihaa
