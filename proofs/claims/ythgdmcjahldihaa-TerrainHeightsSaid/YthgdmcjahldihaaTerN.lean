/- The contract of the reference's Height (mapsheetsref43). -/
import Derived.Test.YthgdmcjahldihaaTerH
import Derived.Test.YthgdmcjahldihaaNumD
import Derived.Test.YthgdmcjahldihaaTerD
namespace Go.Proofs.Ythgdmcjahldihaa
open Go.RowKit
open Num (I64 mkN mkD mkE)
set_option linter.unusedVariables false

theorem alloc_cell {w : World} {o : Obj} {b i : Nat} {v : Value} (hb : b < w.heap.size) (h : w.cell? ⟨b, i, none⟩ = some v) : (w.alloc o).cell? ⟨b, i, none⟩ = some v := by rw [World.cell?_alloc_past _ _ _ hb]; exact h
set_option maxRecDepth 100000 in
set_option maxHeartbeats 1000000 in
theorem rHeight_in (x y S px py : Int) (b off n c m q k r i : Nat) (z : Nat → Int) (w : World) (hn : n ≤ 4200) (hb : b < w.heap.size) (hA : ∀ j, j < n → w.cell? ⟨b, off + j, none⟩ = some (.int .i64 (z j)))
    (h : Ter.chk x y m q S n z = 0) (h1 : x ≤ px) (h2 : px ≤ x + (m - 1) * S) (h3 : y ≤ py) (h4 : py ≤ y + (q - 1) * S) (hk : Ter.stp (px - x) S m = k) (hr : Ter.stp (py - y) S q = r) (hi : r * m + k = i) :
    Calls Try.prog 32 #[hgt x y m q S (some ⟨b, off, none⟩) n c, .agg #[.int .i64 px, .int .i64 py]] w (FracOut (mkN (Ter.htN z m S i (px - x - k * S) (py - y - r * S)) S) (mkD (Ter.htN z m S i (px - x - k * S) (py - y - r * S)) S) 0 w) := by
  obtain ⟨⟨g1, g2⟩, ⟨g3, g4⟩, ⟨g5, g6⟩, ⟨g7, g8⟩, ⟨g9, g10⟩, -, -⟩ := (Ter.chk_zero h).1
  have HC := Lib.hid h
  have HZ := Lib.hid (Ter.chk_zero h).2.2
  have HN : Hid (n = m * q) := by have := (Ter.chk_zero h).2.1; exact Lib.hid (by exact_mod_cast this)
  have HI : Ints w w.heap.size (some ⟨b, off, none⟩) n z := fun _ => ⟨b, off, rfl, hb, hA⟩
  have HX := Lib.hid hA
  have hp : 0 ≤ ((m : Int) - 1) * S ∧ ((m : Int) - 1) * S ≤ 66060288 := Ter.mul_bound (A := 63) (B := 1048576) (by omega) (by omega) (by omega) (by omega)
  have hq : 0 ≤ ((q : Int) - 1) * S ∧ ((q : Int) - 1) * S ≤ 66060288 := Ter.mul_bound (A := 63) (B := 1048576) (by omega) (by omega) (by omega) (by omega)
  obtain ⟨hp1, hp2⟩ := hp
  obtain ⟨hq1, hq2⟩ := hq
  have FX := Lib.hid (Ter.stp_facts (X := px - x) (S := S) (M := m) (k := k) (by omega) (by omega) (by omega) g9 hk)
  have FY := Lib.hid (Ter.stp_facts (X := py - y) (S := S) (M := q) (k := r) (by omega) (by omega) (by omega) g9 hr)
  have MX := Lib.hid (show (if (m : Int) - 2 < (px - x) / S then (m : Int) - 2 else (px - x) / S) = k from hk)
  have MY := Lib.hid (show (if (q : Int) - 2 < (py - y) / S then (q : Int) - 2 else (py - y) / S) = r from hr)
  clear h hA hk hr
  unfold hgt
  have d1 : decide (px < x) = false := by simp; omega
  have d2 : decide (x + ((m : Int) - 1) * S < px) = false := by simp; omega
  have d3 : decide (py < y) = false := by simp; omega
  have d4 : decide (y + ((q : Int) - 1) * S < py) = false := by simp; omega
  go_enter Try.func32, Try.ntmps32
  go_wp2_with fail
  refine (rcheck_any _ _ _ _ _ _ _ _ z _ hn (HI.later (below_step (below_step (below_box _ _) (below_box _ _)) (below_box _ _)))).mono ?_
  rintro e w1 ⟨rfl, hb1⟩
  rw [HC.out]
  have F1 := Lib.hid (below_step (below_step (below_step (below_box w _) (below_box _ _)) (below_box _ _)) hb1)
  have B1 := Lib.hid hb1
  have hs1 : w.heap.size + 1 + 1 < w1.heap.size := by have := hb1.size; simp at this; omega
  obtain ⟨hcl, hfz⟩ := bcell hb1
  clear hb1
  go_wp2_with fail
  refine (rat_any _ _ _ _ _ _ _ _ _ _ _ (by omega) (by omega) (by omega) (by omega) (by omega) (by omega) (by omega) (by omega)).mono ?_
  rintro e w2 ⟨rfl, hb2⟩
  have F2 := Lib.hid (below_step F1.out hb2)
  have B2 := Lib.hid (below_step B1.out hb2)
  have hs2 : w.heap.size < w2.heap.size := by have := hb2.size; omega
  have hs2' : w.heap.size + 1 < w2.heap.size := by have := hb2.size; omega
  have hs2'' : w.heap.size + 1 + 1 < w2.heap.size := by have := hb2.size; omega
  clear hb2 hcl hfz B1 F1
  obtain ⟨hcl, hfz⟩ := bcell B2.out
  go_wp2_with fail
  have s1 : IntKind.i64.wrap (px - x) = px - x := IntWalk.i64_in _ (by omega)
  have s2 : IntKind.i64.wrap ((m : Int) - 2) = (m : Int) - 2 := IntWalk.i64_in _ (by omega)
  have s3 : IntKind.i64.wrap (py - y) = py - y := IntWalk.i64_in _ (by omega)
  have s4 : IntKind.i64.wrap ((q : Int) - 2) = (q : Int) - 2 := IntWalk.i64_in _ (by omega)
  have s5 : S ≠ 0 := by omega
  go_quiet (fail)
  rw [MX.out, MY.out]
  clear s1 s2 s3 s4 s5
  obtain ⟨f1, f2, f3, f4⟩ := FX.out
  obtain ⟨f5, f6, f7, f8⟩ := FY.out
  go_wp2_with fail
  refine (rat_any _ _ _ _ _ _ _ _ _ _ _ (by omega) (by omega) (by omega) (by omega) (by omega) (by omega) (by omega) (by omega)).mono ?_
  rintro e w3 ⟨rfl, hb3⟩
  have hb3' : Below (w2.alloc (.cells #[.int .i64 (x + (m - 1) * S), .int .i64 (y + (q - 1) * S)] 23)).heap.size (w2.alloc (.cells #[.int .i64 (x + (m - 1) * S), .int .i64 (y + (q - 1) * S)] 23)) w3 := below_step (below_drew (Below.refl _ _) _) hb3
  have F3 := Lib.hid (below_step (below_step F2.out (below_box _ _)) hb3')
  have B3 := Lib.hid (below_step (below_step B2.out (below_box _ _)) hb3')
  have hs3 : w.heap.size < w3.heap.size := by have := B3.out.size; simp at this; omega
  have hs3' : w.heap.size + 1 < w3.heap.size := by have := B3.out.size; simp at this; omega
  have hs3'' : w.heap.size + 1 + 1 < w3.heap.size := by have := B3.out.size; simp at this; omega
  clear hb3 hb3' hcl hfz B2 F2
  obtain ⟨hcl, hfz⟩ := bcell B3.out
  go_wp2_with fail
  have s1 : IntKind.i64.wrap (px - (x + (k : Int) * S)) = px - (x + (k : Int) * S) := IntWalk.i64_in _ (by omega)
  have s2 : IntKind.i64.wrap (py - (y + (r : Int) * S)) = py - (y + (r : Int) * S) := IntWalk.i64_in _ (by omega)
  go_quiet (fail)
  clear s1 s2
  have hin : i + m + 1 < n := by
    have h1 : (r + 2) * m ≤ q * m := Nat.mul_le_mul_right m (by omega)
    rw [Nat.add_mul] at h1
    rw [HN.out, Nat.mul_comm m q]; omega
  obtain ⟨rm, hrm, hrm1, hrm2⟩ : ∃ rm : Nat, (r : Int) * (m : Int) = (rm : Int) ∧ ((r : Int) + 1) * (m : Int) = ((rm + m : Nat) : Int) ∧ rm + k = i := ⟨r * m, by push_cast; rfl, by push_cast; rw [Int.add_mul, Int.one_mul], hi⟩
  have a1 : IntKind.i64.wrap ((r : Int) * (m : Int)) = (rm : Int) := by rw [hrm]; exact IntWalk.i64_in _ (by omega)
  have a5 : IntKind.i64.wrap (((r : Int) + 1) * (m : Int)) = ((rm + m : Nat) : Int) := by rw [hrm1]; exact IntWalk.i64_in _ (by omega)
  generalize hrn : rm + m = rn at *
  have a2 : IntKind.i64.wrap ((rm : Int) + (k : Int)) = (i : Int) := by rw [show (rm : Int) + k = i by omega]; exact IntWalk.i64_in _ (by omega)
  have a3 : IntKind.i64.wrap ((i : Int) + 1) = (i : Int) + 1 := IntWalk.i64_in _ (by omega)
  have a4 : IntKind.i64.wrap ((r : Int) + 1) = (r : Int) + 1 := IntWalk.i64_in _ (by omega)
  obtain ⟨im, him⟩ : ∃ im : Nat, i + m = im := ⟨_, rfl⟩
  have a6 : IntKind.i64.wrap ((rn : Int) + (k : Int)) = (im : Int) := by rw [show (rn : Int) + k = im by omega]; exact IntWalk.i64_in _ (by omega)
  have a7 : IntKind.i64.wrap ((im : Int) + 1) = (im : Int) + 1 := IntWalk.i64_in _ (by omega)
  have v0 : (0 : Int) ≤ (i : Int) := by omega
  have v1 : (i : Int) < (n : Int) := by omega
  have v2 : (0 : Int) ≤ (i : Int) + 1 := by omega
  have v3 : (i : Int) + 1 < (n : Int) := by omega
  have v4 : (0 : Int) ≤ (im : Int) := by omega
  have v5 : (im : Int) < (n : Int) := by omega
  have v6 : (0 : Int) ≤ (im : Int) + 1 := by omega
  have v7 : (im : Int) + 1 < (n : Int) := by omega
  have t1 : ((i : Int) + 1).toNat = i + 1 := by omega
  have t2 : ((im : Int) + 1).toNat = im + 1 := by omega
  have e0 : w3.cell? ⟨b, off + i, none⟩ = some (.int .i64 (z i)) := cell_in F3.out (HX.out i (by omega)) hb
  have e1 : w3.cell? ⟨b, off + (i + 1), none⟩ = some (.int .i64 (z (i + 1))) := cell_in F3.out (HX.out (i + 1) (by omega)) hb
  have e2 : w3.cell? ⟨b, off + im, none⟩ = some (.int .i64 (z im)) := cell_in F3.out (HX.out im (by omega)) hb
  have e3 : w3.cell? ⟨b, off + (im + 1), none⟩ = some (.int .i64 (z (im + 1))) := cell_in F3.out (HX.out (im + 1) (by omega)) hb
  have hb3 : b < w3.heap.size := by omega
  obtain ⟨z0, z0'⟩ := HZ.out i (by omega)
  obtain ⟨z1, z1'⟩ := HZ.out (i + 1) (by omega)
  obtain ⟨z2, z2'⟩ := HZ.out im (by omega)
  obtain ⟨z3, z3'⟩ := HZ.out (im + 1) (by omega)
  have HT : Hid (Ter.htN z m S i (px - x - k * S) (py - y - r * S) = if py - (y + r * S) ≤ px - (x + k * S) then z i * S + (z (i + 1) - z i) * (px - (x + k * S)) + (z (im + 1) - z (i + 1)) * (py - (y + r * S)) else z i * S + (z im - z i) * (py - (y + r * S)) + (z (im + 1) - z im) * (px - (x + k * S))) := by
    apply Lib.hid
    rw [show px - (x + k * S) = px - x - k * S by omega, show py - (y + r * S) = py - y - r * S by omega, ← him]
    rfl
  generalize Ter.htN z m S i (px - x - k * S) (py - y - r * S) = T at *
  generalize z i = za at *
  generalize z (i + 1) = zb at *
  generalize z im = zc at *
  generalize z (im + 1) = zd at *
  clear hrm hrm1 hrm2 hrn him hin
  go_wp2_with fail
  go_quiet (fail)
  go_wp2_with fail
  go_quiet (fail)
  clear e0 e1 e2 e3 v0 v1 v2 v3 v4 v5 v6 v7 t1 t2 a1 a2 a3 a4 a5 a6 a7
  obtain ⟨u1, u1'⟩ := Ter.mul_part (d := za) (u := S) (by omega) (by omega) (by omega) g10
  obtain ⟨u2, u2'⟩ := Ter.mul_part (d := zb - za) (u := px - (x + k * S)) (by omega) (by omega) (by omega) (by omega)
  obtain ⟨u3, u3'⟩ := Ter.mul_part (d := zd - zb) (u := py - (y + r * S)) (by omega) (by omega) (by omega) (by omega)
  obtain ⟨u4, u4'⟩ := Ter.mul_part (d := zc - za) (u := py - (y + r * S)) (by omega) (by omega) (by omega) (by omega)
  obtain ⟨u5, u5'⟩ := Ter.mul_part (d := zd - zc) (u := px - (x + k * S)) (by omega) (by omega) (by omega) (by omega)
  by_cases huv : py - (y + r * S) ≤ px - (x + k * S)
  all_goals
    have hT := HT.out
    first | rw [if_pos huv] at hT | rw [if_neg huv] at hT
    have HT2 := Lib.hid hT
    have hTb : -100000000000 ≤ T ∧ T ≤ 100000000000 := by rw [hT]; constructor <;> omega
    have MK := Lib.hid (Num.mk_small (a := T) (b := S) (by omega) (by omega) (by omega) (by omega))
    have MA := Lib.hid (rmake_any T S)
    clear hT HT
    go_wp2_with fail
    rw [← HT2.out]
    refine (MA.out _ ⟨by omega, by omega⟩ ⟨by omega, by omega⟩).mono ?_
    rintro e w5 ⟨rfl, hb5⟩
    rw [MK.out.1]
    have hb5' : Below (w3.alloc (.cells #[.int .i64 (x + k * S), .int .i64 (y + r * S)] 23)).heap.size (w3.alloc (.cells #[.int .i64 (x + k * S), .int .i64 (y + r * S)] 23)) w5 := below_step (below_drew (Below.refl _ _) _) hb5
    have hbk : w5.heap[w.heap.size + 1 + 1]? = some (.cells #[.int .i64 0, .int .i64 0] 44 (0, 0)) := by
      rw [hb5'.block _ (by simp; omega), Below.heap_alloc _ _ _ hs3'', B3.out.block _ (by simp)]
      exact frac_new _ _ _ _ _
    have HBK := Lib.hid hbk
    have FB5 := Lib.hid (below_step (below_step F3.out (below_box _ _)) hb5')
    have hs5 : w.heap.size + 1 + 1 < w5.heap.size := by have := hb5'.size; simp at this; omega
    obtain ⟨⟨j0, j1⟩, jf0, jf1⟩ := frac_cells hbk
    clear hb5 hb5' hbk hcl hfz
    go_wp2
    have hblk := frac_store (u0 := .int .i64 (mkN T S)) (u1 := .int .i64 (mkD T S)) HBK.out
    obtain ⟨⟨y0, y1⟩, -⟩ := frac_cells hblk
    have y0' := alloc_cell (o := .cells #[.int .i64 (mkN T S), .int .i64 (mkD T S)] 44) (by simp; omega) y0
    have y1' := alloc_cell (o := .cells #[.int .i64 (mkN T S), .int .i64 (mkD T S)] 44) (by simp; omega) y1
    exact bodyPost_ret (v := .tuple #[.agg #[.int .i64 (mkN T S), .int .i64 (mkD T S)], .int .i64 0]) (by simp [results, Try.results32, go_sem, y0', y1']) rfl ⟨rfl, below_step ((FB5.out.setCell (p := ⟨w.heap.size + 1 + 1, 0, none⟩) (by show w.heap.size ≤ w.heap.size + 1 + 1; omega) _).setCell (p := ⟨w.heap.size + 1 + 1, 1, none⟩) (by show w.heap.size ≤ w.heap.size + 1 + 1; omega) _) (below_box _ _)⟩
set_option maxRecDepth 100000 in
set_option maxHeartbeats 1000000 in
theorem rHeight_err (x y W H S px py : Int) (A : Option Addr) (n c : Nat) (z : Nat → Int) (w : World) (hn : n ≤ 4200) (hA : Ints w w.heap.size A n z) (h : Ter.chk x y W H S n z ≠ 0) :
    Calls Try.prog 32 #[hgt x y W H S A n c, .agg #[.int .i64 px, .int .i64 py]] w (FracOut 0 0 (Ter.chk x y W H S n z) w) := by
  have hb : (Ter.chk x y W H S n z != 0) = true := by simpa using h
  unfold hgt
  go_enter Try.func32, Try.ntmps32
  go_wp2_with fail
  refine (rcheck_any _ _ _ _ _ _ _ _ z _ hn (hA.later (below_step (below_step (below_box _ _) (below_box _ _)) (below_box _ _)))).mono ?_
  rintro e w1 ⟨rfl, hb1⟩
  have hfin := Lib.hid (below_step (below_step (below_step (below_box w _) (below_box _ _)) (below_box _ _)) hb1)
  have HB := Lib.hid ((hb1.block (w.heap.size + 1 + 1) (by simp)).trans (frac_new _ _ _ _ _))
  obtain ⟨⟨j0, j1⟩, jf0, jf1⟩ := frac_cells HB.out
  clear hb1
  go_wp2
  have hblk := frac_store (u0 := .int .i64 0) (u1 := .int .i64 0) HB.out
  obtain ⟨⟨y0, y1⟩, -⟩ := frac_cells hblk
  exact bodyPost_ret (v := .tuple #[.agg #[.int .i64 0, .int .i64 0], .int .i64 (Ter.chk x y W H S n z)]) (by simp [results, Try.results32, go_sem, y0, y1]) rfl ⟨rfl, (hfin.out.setCell (p := ⟨w.heap.size + 1 + 1, 0, none⟩) (by show w.heap.size ≤ w.heap.size + 1 + 1; omega) _).setCell (p := ⟨w.heap.size + 1 + 1, 1, none⟩) (by show w.heap.size ≤ w.heap.size + 1 + 1; omega) _⟩

set_option maxRecDepth 100000 in
set_option maxHeartbeats 1000000 in
theorem rHeight_out (x y W H S px py : Int) (A : Option Addr) (n c : Nat) (z : Nat → Int) (w : World) (hn : n ≤ 4200) (hA : Ints w w.heap.size A n z) (h : Ter.chk x y W H S n z = 0) (h' : ¬ Ter.Ins x y W H S px py) :
    Calls Try.prog 32 #[hgt x y W H S A n c, .agg #[.int .i64 px, .int .i64 py]] w (FracOut 0 0 7 w) := by
  obtain ⟨⟨g1, g2⟩, ⟨g3, g4⟩, ⟨g5, g6⟩, ⟨g7, g8⟩, ⟨g9, g10⟩, -, -⟩ := (Ter.chk_zero h).1
  obtain ⟨hp1, hp2⟩ : 0 ≤ (W - 1) * S ∧ (W - 1) * S ≤ 66060288 := Ter.mul_bound (A := 63) (B := 1048576) (by omega) (by omega) (by omega) (by omega)
  obtain ⟨hq1, hq2⟩ : 0 ≤ (H - 1) * S ∧ (H - 1) * S ≤ 66060288 := Ter.mul_bound (A := 63) (B := 1048576) (by omega) (by omega) (by omega) (by omega)
  have HC := Lib.hid h
  unfold hgt
  by_cases d1 : px < x
  case' neg => by_cases d2 : x + (W - 1) * S < px
  case' neg => by_cases d3 : py < y
  case' neg => have d4 : y + (H - 1) * S < py := by
                apply Classical.byContradiction; intro d4; exact h' ⟨⟨by omega, by omega⟩, by omega, by omega⟩
  all_goals
    clear h h'
    go_enter Try.func32, Try.ntmps32
    go_wp2_with fail
    refine (rcheck_any _ _ _ _ _ _ _ _ z _ hn (hA.later (below_step (below_step (below_box _ _) (below_box _ _)) (below_box _ _)))).mono ?_
    rintro e w1 ⟨rfl, hb1⟩
    rw [HC.out]
    have hfin := Lib.hid (below_step (below_step (below_step (below_box w _) (below_box _ _)) (below_box _ _)) hb1)
    have HB := Lib.hid ((hb1.block (w.heap.size + 1 + 1) (by simp)).trans (frac_new _ _ _ _ _))
    have B1 := Lib.hid hb1
    have hs1 : w.heap.size + 1 + 1 < w1.heap.size := by have := hb1.size; simp at this; omega
    obtain ⟨hcl, hfz⟩ := bcell hb1
    clear hb1
    go_wp2_with fail
    refine (rat_any _ _ _ _ _ _ _ _ _ _ _ (by omega) (by omega) (by omega) (by omega) (by omega) (by omega) (by omega) (by omega)).mono ?_
    rintro e w2 ⟨rfl, hb2⟩
    have hfin2 := Lib.hid (below_step hfin.out hb2)
    have B2 := Lib.hid (below_step B1.out hb2)
    have hs2 : w.heap.size < w2.heap.size := by have := hb2.size; omega
    have hs2' : w.heap.size + 1 < w2.heap.size := by have := hb2.size; omega
    have hs2'' : w.heap.size + 1 + 1 < w2.heap.size := by have := hb2.size; omega
    have hbk : (w2.alloc (.cells #[.int .i64 (x + (W - 1) * S), .int .i64 (y + (H - 1) * S)] 23)).heap[w.heap.size + 1 + 1]? = some (.cells #[.int .i64 0, .int .i64 0] 44 (0, 0)) := by
      rw [Below.heap_alloc _ _ _ hs2'', hb2.block _ hs1]; exact HB.out
    have HBK := Lib.hid hbk
    have hbk2 : w2.heap[w.heap.size + 1 + 1]? = some (.cells #[.int .i64 0, .int .i64 0] 44 (0, 0)) := by rw [hb2.block _ hs1]; exact HB.out
    have HBK2 := Lib.hid hbk2
    obtain ⟨⟨j0, j1⟩, jf0, jf1⟩ := frac_cells hbk2
    clear hb2 hcl hfz hbk hbk2
    obtain ⟨hcl, hfz⟩ := bcell B2.out
    go_wp2
    have hblk := frac_store (u0 := .int .i64 0) (u1 := .int .i64 0) HBK2.out
    obtain ⟨⟨y0, y1⟩, -⟩ := frac_cells hblk
    have y0' := alloc_cell (o := .cells #[.int .i64 (x + (W - 1) * S), .int .i64 (y + (H - 1) * S)] 23) (by simp; omega) y0
    have y1' := alloc_cell (o := .cells #[.int .i64 (x + (W - 1) * S), .int .i64 (y + (H - 1) * S)] 23) (by simp; omega) y1
    exact bodyPost_ret (v := .tuple #[.agg #[.int .i64 0, .int .i64 0], .int .i64 7]) (by simp [results, Try.results32, go_sem, y0', y1']) rfl ⟨rfl, below_step ((hfin2.out.setCell (p := ⟨w.heap.size + 1 + 1, 0, none⟩) (by show w.heap.size ≤ w.heap.size + 1 + 1; omega) _).setCell (p := ⟨w.heap.size + 1 + 1, 1, none⟩) (by show w.heap.size ≤ w.heap.size + 1 + 1; omega) _) (below_box _ _)⟩
theorem rHeight_any (x y W H S px py : Int) (A : Option Addr) (n c : Nat) (z : Nat → Int) (w : World) (hn : n ≤ 4200) (hA : Ints w w.heap.size A n z) :
    Calls Try.prog 32 #[hgt x y W H S A n c, .agg #[.int .i64 px, .int .i64 py]] w (FracOut (Ter.hgN x y W H S n z px py) (Ter.hgD x y W H S n z px py) (Ter.hgE x y W H S n z px py) w) := by
  by_cases h : Ter.chk x y W H S n z = 0
  · by_cases h' : Ter.Ins x y W H S px py
    · obtain ⟨e1, e2, e3⟩ := Ter.hg_in h h'
      rw [e1, e2, e3]
      obtain ⟨m, q, k, r, rfl, rfl, hk, hr, hT⟩ := Ter.ins_nat h h'
      rw [hT]
      obtain ⟨⟨-, -, ⟨g5, g6⟩, ⟨g7, g8⟩, -, -, -⟩, hw, -⟩ := Ter.chk_zero h
      have h4 : 4 ≤ (m : Int) * q := Int.mul_le_mul g5 g7 (by omega) (by omega)
      obtain ⟨b, off, rfl, hb, hc⟩ := hA (by omega)
      exact rHeight_in x y S px py b off n c m q k r (r * m + k) z w hn hb hc h h'.1.1 h'.1.2 h'.2.1 h'.2.2 hk hr rfl
    · obtain ⟨e1, e2, e3⟩ := Ter.hg_out h h'
      rw [e1, e2, e3]; exact rHeight_out x y W H S px py A n c z w hn hA h h'
  · obtain ⟨e1, e2, e3⟩ := Ter.hg_err (px := px) (py := py) h
    rw [e1, e2, e3]; exact rHeight_err x y W H S px py A n c z w hn hA h
end Go.Proofs.Ythgdmcjahldihaa
