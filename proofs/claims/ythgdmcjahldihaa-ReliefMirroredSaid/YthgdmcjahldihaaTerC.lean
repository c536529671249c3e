/- The contracts of the reference's Point, at and Check (mapsheetsref10, mapsheetsref43). -/
import Derived.Test.YthgdmcjahldihaaTerA
namespace Go.Proofs.Ythgdmcjahldihaa
open Go.RowKit
set_option linter.unusedVariables false

theorem bcell {W w1 : World} (hb : Below W.heap.size W w1) : (∀ b o, b < W.heap.size → w1.cell? ⟨b, o, none⟩ = W.cell? ⟨b, o, none⟩) ∧ (∀ b o, b < W.heap.size → w1.frozen? ⟨b, o, none⟩ = W.frozen? ⟨b, o, none⟩) :=
  ⟨fun b o h => hb.cell (p := ⟨b, o, none⟩) h, fun b o h => hb.frozen (p := ⟨b, o, none⟩) h⟩

theorem below_box (w : World) (o : Obj) : Below w.heap.size w (w.alloc o) := (Below.refl _ _).alloc (Nat.le_refl _) _
theorem below_step {w a b : World} (h : Below w.heap.size w a) (hb : Below a.heap.size a b) : Below w.heap.size w b := h.trans (hb.mono h.size)
theorem below_drew {w a : World} (h : Below w.heap.size w a) (n : Nat) : Below w.heap.size w (a.drewN n) := ⟨h.os, h.tape, h.output, h.size, h.block⟩
theorem Ints.below {w w' : World} {B : Nat} {A : Option Addr} {n : Nat} {z : Nat → Int} (h : Ints w B A n z) (hb : Below B w w') : Ints w' B A n z := fun hn => by
  obtain ⟨b, off, e, hB, hc⟩ := h hn
  exact ⟨b, off, e, hB, fun j hj => (hb.cell (p := ⟨b, off + j, none⟩) hB).trans (hc j hj)⟩
theorem Ints.more {w : World} {B B' : Nat} {A : Option Addr} {n : Nat} {z : Nat → Int} (h : Ints w B A n z) (hB : B ≤ B') : Ints w B' A n z := fun hn => by
  obtain ⟨b, off, e, hb, hc⟩ := h hn
  exact ⟨b, off, e, by omega, hc⟩
theorem Ints.later {w w' : World} {A : Option Addr} {n : Nat} {z : Nat → Int} (h : Ints w w.heap.size A n z) (hb : Below w.heap.size w w') : Ints w' w'.heap.size A n z :=
  (h.below hb).more hb.size

set_option maxHeartbeats 400000 in
theorem rpoint_yes (x y : Int) (w : World) (h1 : -1048576 ≤ x) (h2 : x ≤ 1048576) (h3 : -1048576 ≤ y) (h4 : y ≤ 1048576) :
    Calls Try.prog 42 #[.agg #[.int .i64 x, .int .i64 y]] w fun e w' => e = .returned (.bool true) ∧ Below w.heap.size w w' := by
  go_enter Try.func42, Try.ntmps42
  go_wp2
  go_ret
  exact ⟨rfl, by go_grown⟩

set_option maxHeartbeats 400000 in
theorem rpoint_no (x y : Int) (w : World) (h : (x < -1048576 ∨ 1048576 < x) ∨ (y < -1048576 ∨ 1048576 < y)) :
    Calls Try.prog 42 #[.agg #[.int .i64 x, .int .i64 y]] w fun e w' => e = .returned (.bool false) ∧ Below w.heap.size w w' := by
  by_cases h1 : x < -1048576
  · clear h
    go_enter Try.func42, Try.ntmps42
    go_wp2
    go_ret
    exact ⟨rfl, by go_grown⟩
  by_cases h2 : 1048576 < x
  · clear h
    go_enter Try.func42, Try.ntmps42
    go_wp2
    go_ret
    exact ⟨rfl, by go_grown⟩
  by_cases h3 : y < -1048576
  · clear h
    go_enter Try.func42, Try.ntmps42
    go_wp2
    go_ret
    exact ⟨rfl, by go_grown⟩
  · have h4 : decide (y ≤ 1048576) = false := by simp; omega
    clear h
    go_enter Try.func42, Try.ntmps42
    go_wp2
    go_ret
    exact ⟨rfl, by go_grown⟩

set_option maxHeartbeats 400000 in
theorem rat_any (x y W H S : Int) (A : Option Addr) (n c : Nat) (i j : Int) (w : World) (hx : -4611686018427387904 ≤ i * S) (hx' : i * S ≤ 4611686018427387904) (hy : -4611686018427387904 ≤ j * S) (hy' : j * S ≤ 4611686018427387904)
    (g1 : -1048576 ≤ x) (g2 : x ≤ 1048576) (g3 : -1048576 ≤ y) (g4 : y ≤ 1048576) :
    Calls Try.prog 43 #[hgt x y W H S A n c, .int .i64 i, .int .i64 j] w fun e w' => e = .returned (.agg #[.int .i64 (x + i * S), .int .i64 (y + j * S)]) ∧ Below w.heap.size w w' := by
  unfold hgt
  go_enter Try.func43, Try.ntmps43
  go_wp2
  go_returns
  exact ⟨rfl, by go_grown⟩

set_option maxHeartbeats 1000000 in
theorem rcheck_geo (x y W H S : Int) (A : Option Addr) (n c : Nat) (z : Nat → Int) (w : World) (h : ¬ Ter.Geo x y W H S) :
    Calls Try.prog 23 #[hgt x y W H S A n c] w fun e w' => e = .returned (.int .i64 (Ter.chk x y W H S n z)) ∧ Below w.heap.size w w' := by
  unfold hgt
  have hc := Lib.hid (Ter.chk_bad (n := n) (z := z) h)
  by_cases c1 : (-1048576 ≤ x ∧ x ≤ 1048576) ∧ (-1048576 ≤ y ∧ y ≤ 1048576)
  case neg =>
    clear h
    go_enter Try.func23, Try.ntmps23
    go_wp2_with fail
    refine (rpoint_no _ _ _ (by omega)).mono ?_
    rintro e w1 ⟨rfl, hb⟩
    obtain ⟨hcl, hfz⟩ := bcell hb
    go_wp2
    go_ret
    rw [hc.out]
    exact ⟨rfl, below_step (below_box _ _) hb⟩
  by_cases c2 : W < 2 ∨ 64 < W ∨ H < 2 ∨ 64 < H ∨ S < 1 ∨ 1048576 < S
  case pos =>
    clear h
    by_cases d1 : W < 2
    case' neg => by_cases d2 : 64 < W
    case' neg => by_cases d3 : H < 2
    case' neg => by_cases d4 : 64 < H
    case' neg => by_cases d5 : S < 1
    case' neg => have d6 : 1048576 < S := by omega
    all_goals
      clear c2
      go_enter Try.func23, Try.ntmps23
      go_wp2_with fail
      refine (rpoint_yes _ _ _ (by omega) (by omega) (by omega) (by omega)).mono ?_
      rintro e w1 ⟨rfl, hb⟩
      obtain ⟨hcl, hfz⟩ := bcell hb
      go_wp2
      go_ret
      rw [hc.out]
      exact ⟨rfl, below_step (below_box _ _) hb⟩
  have hp : 0 ≤ (W - 1) * S ∧ (W - 1) * S ≤ 66060288 := Ter.mul_bound (A := 63) (B := 1048576) (by omega) (by omega) (by omega) (by omega)
  have hq : 0 ≤ (H - 1) * S ∧ (H - 1) * S ≤ 66060288 := Ter.mul_bound (A := 63) (B := 1048576) (by omega) (by omega) (by omega) (by omega)
  have c5 : ¬ ((-1048576 ≤ x + (W - 1) * S ∧ x + (W - 1) * S ≤ 1048576) ∧ (-1048576 ≤ y + (H - 1) * S ∧ y + (H - 1) * S ≤ 1048576)) := fun hx => h ⟨c1.1, c1.2, by omega, by omega, by omega, hx.1, hx.2⟩
  clear h
  go_enter Try.func23, Try.ntmps23
  go_wp2_with fail
  refine (rpoint_yes _ _ _ (by omega) (by omega) (by omega) (by omega)).mono ?_
  rintro e w1 ⟨rfl, hb⟩
  obtain ⟨hcl, hfz⟩ := bcell hb
  have hs := hb.size
  go_wp2_with fail
  refine (rat_any _ _ _ _ _ _ _ _ _ _ _ (by omega) (by omega) (by omega) (by omega) (by omega) (by omega) (by omega) (by omega)).mono ?_
  rintro e w2 ⟨rfl, hb2⟩
  go_wp2_with fail
  refine (rpoint_no _ _ _ (by omega)).mono ?_
  rintro e w3 ⟨rfl, hb3⟩
  go_wp2
  go_ret
  rw [hc.out]
  exact ⟨rfl, below_step (below_step (below_step (below_box _ _) hb) hb2) hb3⟩
end Go.Proofs.Ythgdmcjahldihaa
