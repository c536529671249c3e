/- The contract of terrain.Height: its errors, and the whole. -/
import Derived.Test.YthgdmcjahldihaaTerG
import Derived.Test.YthgdmcjahldihaaTerPlainD
namespace Go.Proofs.Ythgdmcjahldihaa
open Go.RowKit
open Num (I64 mkN mkD mkE)
set_option linter.unusedVariables false

set_option maxRecDepth 100000 in
set_option maxHeartbeats 1000000 in
theorem Height_err (x y W H S px py : Int) (A : Option Addr) (n c : Nat) (z : Nat → Int) (w : World) (hn : n ≤ 4200) (hA : Ints w w.heap.size A n z) (h : Ter.chk x y W H S n z ≠ 0) :
    Calls Try.prog 31 #[hgt x y W H S A n c, .agg #[.int .i64 px, .int .i64 py]] w (FracOut 0 0 (Ter.chk x y W H S n z) w) := by
  have hb : (Ter.chk x y W H S n z != 0) = true := by simpa using h
  unfold hgt
  go_enter Try.func31, Try.ntmps31
  go_wp2_with fail
  refine (tcheck_any _ _ _ _ _ _ _ _ z _ hn (hA.later (below_step (below_step (below_box _ _) (below_box _ _)) (below_box _ _)))).mono ?_
  rintro e w1 ⟨rfl, hb1⟩
  have hfin := Lib.hid (below_step (below_step (below_step (below_box w _) (below_box _ _)) (below_box _ _)) hb1)
  have HB := Lib.hid ((hb1.block (w.heap.size + 1 + 1) (by simp)).trans (frac_new _ _ _ _ _))
  obtain ⟨⟨j0, j1⟩, jf0, jf1⟩ := frac_cells HB.out
  clear hb1
  go_wp2
  have hblk := frac_store (u0 := .int .i64 0) (u1 := .int .i64 0) HB.out
  obtain ⟨⟨y0, y1⟩, -⟩ := frac_cells hblk
  exact bodyPost_ret (v := .tuple #[.agg #[.int .i64 0, .int .i64 0], .int .i64 (Ter.chk x y W H S n z)]) (by simp [results, Try.results31, go_sem, y0, y1]) rfl ⟨rfl, (hfin.out.setCell (p := ⟨w.heap.size + 1 + 1, 0, none⟩) (by show w.heap.size ≤ w.heap.size + 1 + 1; omega) _).setCell (p := ⟨w.heap.size + 1 + 1, 1, none⟩) (by show w.heap.size ≤ w.heap.size + 1 + 1; omega) _⟩

set_option maxRecDepth 100000 in
set_option maxHeartbeats 1000000 in
theorem Height_out (x y W H S px py : Int) (A : Option Addr) (n c : Nat) (z : Nat → Int) (w : World) (hn : n ≤ 4200) (hA : Ints w w.heap.size A n z) (h : Ter.chk x y W H S n z = 0) (h' : ¬ Ter.Ins x y W H S px py) :
    Calls Try.prog 31 #[hgt x y W H S A n c, .agg #[.int .i64 px, .int .i64 py]] w (FracOut 0 0 7 w) := by
  obtain ⟨⟨g1, g2⟩, ⟨g3, g4⟩, ⟨g5, g6⟩, ⟨g7, g8⟩, ⟨g9, g10⟩, -, -⟩ := (Ter.chk_zero h).1
  obtain ⟨hp1, hp2⟩ : 0 ≤ (W - 1) * S ∧ (W - 1) * S ≤ 66060288 := Ter.mul_bound (A := 63) (B := 1048576) (by omega) (by omega) (by omega) (by omega)
  obtain ⟨hq1, hq2⟩ : 0 ≤ (H - 1) * S ∧ (H - 1) * S ≤ 66060288 := Ter.mul_bound (A := 63) (B := 1048576) (by omega) (by omega) (by omega) (by omega)
  have HC := Lib.hid h
  unfold hgt
  by_cases d1 : px < x
  case' neg => by_cases d2 : x + (W - 1) * S < px
  case' neg => by_cases d3 : py < y
  case' neg => have d4 : y + (H - 1) * S < py := by
                apply Classical.byContradiction; intro d4; exact h' ⟨⟨by omega, by omega⟩, by omega, by omega⟩
  all_goals
    clear h h'
    go_enter Try.func31, Try.ntmps31
    go_wp2_with fail
    refine (tcheck_any _ _ _ _ _ _ _ _ z _ hn (hA.later (below_step (below_step (below_box _ _) (below_box _ _)) (below_box _ _)))).mono ?_
    rintro e w1 ⟨rfl, hb1⟩
    rw [HC.out]
    have hfin := Lib.hid (below_step (below_step (below_step (below_box w _) (below_box _ _)) (below_box _ _)) hb1)
    have HB := Lib.hid ((hb1.block (w.heap.size + 1 + 1) (by simp)).trans (frac_new _ _ _ _ _))
    obtain ⟨⟨j0, j1⟩, jf0, jf1⟩ := frac_cells HB.out
    obtain ⟨hcl, hfz⟩ := bcell hb1
    clear hb1
    go_wp2
    have hblk := frac_store (u0 := .int .i64 0) (u1 := .int .i64 0) HB.out
    obtain ⟨⟨y0, y1⟩, -⟩ := frac_cells hblk
    exact bodyPost_ret (v := .tuple #[.agg #[.int .i64 0, .int .i64 0], .int .i64 7]) (by simp [results, Try.results31, go_sem, y0, y1]) rfl ⟨rfl, (hfin.out.setCell (p := ⟨w.heap.size + 1 + 1, 0, none⟩) (by show w.heap.size ≤ w.heap.size + 1 + 1; omega) _).setCell (p := ⟨w.heap.size + 1 + 1, 1, none⟩) (by show w.heap.size ≤ w.heap.size + 1 + 1; omega) _⟩
theorem Height_any (x y W H S px py : Int) (A : Option Addr) (n c : Nat) (z : Nat → Int) (w : World) (hn : n ≤ 4200) (hcap : n ≤ c) (hcm : c ≤ maxLen) (hA : Ints w w.heap.size A n z) :
    Calls Try.prog 31 #[hgt x y W H S A n c, .agg #[.int .i64 px, .int .i64 py]] w (FracOut (Ter.hgN x y W H S n z px py) (Ter.hgD x y W H S n z px py) (Ter.hgE x y W H S n z px py) w) := by
  by_cases h : Ter.chk x y W H S n z = 0
  · by_cases h' : Ter.Ins x y W H S px py
    · obtain ⟨e1, e2, e3⟩ := Ter.hg_in h h'
      rw [e1, e2, e3]
      obtain ⟨m, q, k, r, rfl, rfl, hk, hr, hT⟩ := Ter.ins_nat h h'
      rw [hT]
      obtain ⟨⟨-, -, ⟨g5, g6⟩, ⟨g7, g8⟩, -, -, -⟩, hw, -⟩ := Ter.chk_zero h
      have h4 : 4 ≤ (m : Int) * q := Int.mul_le_mul g5 g7 (by omega) (by omega)
      obtain ⟨b, off, rfl, hb, hc⟩ := hA (by omega)
      exact Height_in x y S px py b off n c m q k r (r * m + k) z w hn hcap hcm hb hc h h'.1.1 h'.1.2 h'.2.1 h'.2.2 hk hr rfl
    · obtain ⟨e1, e2, e3⟩ := Ter.hg_out h h'
      rw [e1, e2, e3]; exact Height_out x y W H S px py A n c z w hn hA h h'
  · obtain ⟨e1, e2, e3⟩ := Ter.hg_err (px := px) (py := py) h
    rw [e1, e2, e3]; exact Height_err x y W H S px py A n c z w hn hA h
end Go.Proofs.Ythgdmcjahldihaa
