/- The contract of terrain.Height. -/
import Derived.Test.YthgdmcjahldihaaTerE
import Derived.Test.YthgdmcjahldihaaNumC
import Derived.Test.YthgdmcjahldihaaTerPlainC
import Derived.Deep.RegionHeld3
import Derived.OneCell
namespace Go.Proofs.Ythgdmcjahldihaa
open Go.RowKit
open Num (I64 mkN mkD mkE)
set_option linter.unusedVariables false

theorem two_setCell {w : World} {b : Nat} {v0 v1 u : Value} {t : TypeId} (h : w.heap[b]? = some (.cells #[v0, v1] t (0, 0))) :
    (w.setCell ⟨b, 0, none⟩ u).heap[b]? = some (.cells #[u, v1] t (0, 0)) ∧ (w.setCell ⟨b, 1, none⟩ u).heap[b]? = some (.cells #[v0, u] t (0, 0)) := by
  have hlt := lt_of_block h
  have h' : w.heap[b] = .cells #[v0, v1] t (0, 0) := by simpa [Array.getElem?_eq_getElem hlt] using h
  refine ⟨?_, ?_⟩
  all_goals
    show (w.heap.modify b _)[b]? = _
    rw [Array.getElem?_eq_getElem (by simpa using hlt), Array.getElem_modify_self, h']
    rfl
theorem frac_store {w : World} {P : Nat} {v0 v1 u0 u1 : Value} {t : TypeId} (h : w.heap[P]? = some (.cells #[v0, v1] t (0, 0))) :
    ((w.setCell ⟨P, 0, none⟩ u0).setCell ⟨P, 1, none⟩ u1).heap[P]? = some (.cells #[u0, u1] t (0, 0)) :=
  (two_setCell (two_setCell h).1).2
theorem frac_cells {w : World} {P : Nat} {u0 u1 : Value} {t : TypeId} (h : w.heap[P]? = some (.cells #[u0, u1] t (0, 0))) :
    (w.cell? ⟨P, 0, none⟩ = some u0 ∧ w.cell? ⟨P, 1, none⟩ = some u1) ∧ (w.frozen? ⟨P, 0, none⟩ = false ∧ w.frozen? ⟨P, 1, none⟩ = false) := by
  refine ⟨⟨?_, ?_⟩, ?_, ?_⟩ <;> simp [World.cell?, World.frozen?, h]
theorem frac_new (w : World) (o o' : Obj) (cs : Array Value) (t : TypeId) : (((w.alloc o).alloc o').alloc (.cells cs t)).heap[w.heap.size + 1 + 1]? = some (.cells cs t (0, 0)) := by
  have := heap_alloc_new ((w.alloc o).alloc o') (.cells cs t)
  simpa using this
/-- a row of a grid, from a world in which the box of the grid and all that is older stays as it is -/
theorem line_S (x y H S R : Int) (b off n c m B : Nat) (w0 wv : World) (hB : B < w0.heap.size) (hR : 0 ≤ R) (hR' : R ≤ 63) (hl : (R.toNat + 1) * m ≤ n) (hm : 2 ≤ m) (hm' : m ≤ 64) (hn : n ≤ 4200) (hc : n ≤ c) (hcm : c ≤ maxLen)
    (h0 : wv.cell? ⟨B, 0, none⟩ = some (.int .i64 x)) (h1 : wv.cell? ⟨B, 1, none⟩ = some (.int .i64 y)) (h2 : wv.cell? ⟨B, 2, none⟩ = some (.int .i64 m)) (h3 : wv.cell? ⟨B, 3, none⟩ = some (.int .i64 H)) (h4 : wv.cell? ⟨B, 4, none⟩ = some (.int .i64 S)) (h5 : wv.cell? ⟨B, 5, none⟩ = some (.slice (some ⟨b, off, none⟩) n c))
    (hb : Below w0.heap.size w0 wv) :
    Calls Try.prog 44 #[.agg #[.int .i64 x, .int .i64 y, .int .i64 m, .int .i64 H, .int .i64 S, .slice (some ⟨b, off, none⟩) n c], .int .i64 R] wv fun e w' => e = .returned (.slice (some ⟨b, off + R.toNat * m, none⟩) m m) ∧
      w'.cell? ⟨B, 0, none⟩ = some (.int .i64 x) ∧ w'.cell? ⟨B, 1, none⟩ = some (.int .i64 y) ∧ w'.cell? ⟨B, 2, none⟩ = some (.int .i64 m) ∧ w'.cell? ⟨B, 3, none⟩ = some (.int .i64 H) ∧ w'.cell? ⟨B, 4, none⟩ = some (.int .i64 S) ∧ w'.cell? ⟨B, 5, none⟩ = some (.slice (some ⟨b, off, none⟩) n c) ∧ Below w0.heap.size w0 w' := by
  obtain ⟨r, rfl⟩ := Int.eq_ofNat_of_zero_le hR
  have hs : B < wv.heap.size := by have := hb.size; omega
  refine (line_any x y H S b off n c m r wv hm hm' (by omega) hl hn hc hcm).mono fun e w' ⟨he, hb'⟩ => ⟨he, ?_, ?_, ?_, ?_, ?_, ?_, below_step hb hb'⟩
  · exact cell_in hb' h0 hs
  · exact cell_in hb' h1 hs
  · exact cell_in hb' h2 hs
  · exact cell_in hb' h3 hs
  · exact cell_in hb' h4 hs
  · exact cell_in hb' h5 hs

set_option maxRecDepth 100000 in
set_option maxHeartbeats 1000000 in
theorem Height_in (x y S px py : Int) (b off n c m q k r i : Nat) (z : Nat → Int) (w : World) (hn : n ≤ 4200) (hcap : n ≤ c) (hcm : c ≤ maxLen) (hb : b < w.heap.size) (hA : ∀ j, j < n → w.cell? ⟨b, off + j, none⟩ = some (.int .i64 (z j)))
    (h : Ter.chk x y m q S n z = 0) (h1 : x ≤ px) (h2 : px ≤ x + (m - 1) * S) (h3 : y ≤ py) (h4 : py ≤ y + (q - 1) * S) (hk : Ter.stp (px - x) S m = k) (hr : Ter.stp (py - y) S q = r) (hi : r * m + k = i) :
    Calls Try.prog 31 #[hgt x y m q S (some ⟨b, off, none⟩) n c, .agg #[.int .i64 px, .int .i64 py]] w (FracOut (mkN (Ter.htN z m S i (px - x - k * S) (py - y - r * S)) S) (mkD (Ter.htN z m S i (px - x - k * S) (py - y - r * S)) S) 0 w) := by
  obtain ⟨⟨g1, g2⟩, ⟨g3, g4⟩, ⟨g5, g6⟩, ⟨g7, g8⟩, ⟨g9, g10⟩, -, -⟩ := (Ter.chk_zero h).1
  have HC := Lib.hid h
  have HZ := Lib.hid (Ter.chk_zero h).2.2
  have HN : Hid (n = m * q) := by have := (Ter.chk_zero h).2.1; exact Lib.hid (by exact_mod_cast this)
  have HI : Ints w w.heap.size (some ⟨b, off, none⟩) n z := fun _ => ⟨b, off, rfl, hb, hA⟩
  have HX := Lib.hid hA
  have hp : 0 ≤ ((m : Int) - 1) * S ∧ ((m : Int) - 1) * S ≤ 66060288 := Ter.mul_bound (A := 63) (B := 1048576) (by omega) (by omega) (by omega) (by omega)
  have hq : 0 ≤ ((q : Int) - 1) * S ∧ ((q : Int) - 1) * S ≤ 66060288 := Ter.mul_bound (A := 63) (B := 1048576) (by omega) (by omega) (by omega) (by omega)
  obtain ⟨hp1, hp2⟩ := hp
  obtain ⟨hq1, hq2⟩ := hq
  have FX := Lib.hid (Ter.stp_facts (X := px - x) (S := S) (M := m) (k := k) (by omega) (by omega) (by omega) g9 hk)
  have FY := Lib.hid (Ter.stp_facts (X := py - y) (S := S) (M := q) (k := r) (by omega) (by omega) (by omega) g9 hr)
  have MX := Lib.hid (show (if (m : Int) - 2 < (px - x) / S then (m : Int) - 2 else (px - x) / S) = k from hk)
  have MY := Lib.hid (show (if (q : Int) - 2 < (py - y) / S then (q : Int) - 2 else (py - y) / S) = r from hr)
  clear h hA hk hr
  unfold hgt
  have d1 : decide (px < x) = false := by simp; omega
  have d2 : decide (x + ((m : Int) - 1) * S < px) = false := by simp; omega
  have d3 : decide (py < y) = false := by simp; omega
  have d4 : decide (y + ((q : Int) - 1) * S < py) = false := by simp; omega
  go_enter Try.func31, Try.ntmps31
  go_wp2_with fail
  refine (tcheck_any _ _ _ _ _ _ _ _ z _ hn (HI.later (below_step (below_step (below_box _ _) (below_box _ _)) (below_box _ _)))).mono ?_
  rintro e w1 ⟨rfl, hb1⟩
  rw [HC.out]
  have hb0 := Lib.hid (below_step (below_step (below_step (below_box w _) (below_box _ _)) (below_box _ _)) hb1)
  obtain ⟨hcl, hfz⟩ := bcell hb1
  have B1 := Lib.hid hb1
  clear hb1
  go_wp2_with fail
  have s1 : IntKind.i64.wrap (px - x) = px - x := IntWalk.i64_in _ (by omega)
  have s2 : IntKind.i64.wrap ((m : Int) - 2) = (m : Int) - 2 := IntWalk.i64_in _ (by omega)
  have s3 : S ≠ 0 := by omega
  go_quiet (fail)
  rw [MX.out]
  clear s1 s2
  go_wp2_with fail
  have s1 : IntKind.i64.wrap (py - y) = py - y := IntWalk.i64_in _ (by omega)
  have s2 : IntKind.i64.wrap ((q : Int) - 2) = (q : Int) - 2 := IntWalk.i64_in _ (by omega)
  go_quiet (fail)
  rw [MY.out]
  clear s1 s2 s3
  obtain ⟨f1, f2, f3, f4⟩ := FX.out
  obtain ⟨f5, f6, f7, f8⟩ := FY.out
  have hs1 : w.heap.size < w1.heap.size := by have := B1.out.size; simp at this; omega
  have hs3 : w.heap.size + 1 + 1 < w1.heap.size := by have := B1.out.size; simp at this; omega
  have l1 : (((r : Int)).toNat + 1) * m ≤ n := by
    have h1 : (r + 1) * m ≤ q * m := Nat.mul_le_mul_right m (by omega)
    rw [HN.out, Nat.mul_comm m q]; exact h1
  have l2 : (((r : Int) + 1).toNat + 1) * m ≤ n := by
    have h1 : (r + 1 + 1) * m ≤ q * m := Nat.mul_le_mul_right m (by omega)
    rw [HN.out, Nat.mul_comm m q, show ((r : Int) + 1).toNat = r + 1 by omega]; exact h1
  go_wp2_with fail
  have c0 : w1.cell? ⟨w.heap.size, 0, none⟩ = some (.int .i64 x) := by rw [(bcell B1.out).1 _ _ (by simp; omega), World.cell?_alloc_past _ _ _ (by simp; omega), World.cell?_alloc_past _ _ _ (by simp)]; simp
  have c1 : w1.cell? ⟨w.heap.size, 1, none⟩ = some (.int .i64 y) := by rw [(bcell B1.out).1 _ _ (by simp; omega), World.cell?_alloc_past _ _ _ (by simp; omega), World.cell?_alloc_past _ _ _ (by simp)]; simp
  have c2 : w1.cell? ⟨w.heap.size, 2, none⟩ = some (.int .i64 m) := by rw [(bcell B1.out).1 _ _ (by simp; omega), World.cell?_alloc_past _ _ _ (by simp; omega), World.cell?_alloc_past _ _ _ (by simp)]; simp
  have c3 : w1.cell? ⟨w.heap.size, 3, none⟩ = some (.int .i64 q) := by rw [(bcell B1.out).1 _ _ (by simp; omega), World.cell?_alloc_past _ _ _ (by simp; omega), World.cell?_alloc_past _ _ _ (by simp)]; simp
  have c4 : w1.cell? ⟨w.heap.size, 4, none⟩ = some (.int .i64 S) := by rw [(bcell B1.out).1 _ _ (by simp; omega), World.cell?_alloc_past _ _ _ (by simp; omega), World.cell?_alloc_past _ _ _ (by simp)]; simp
  have c5 : w1.cell? ⟨w.heap.size, 5, none⟩ = some (.slice (some ⟨b, off, none⟩) n c) := by rw [(bcell B1.out).1 _ _ (by simp; omega), World.cell?_alloc_past _ _ _ (by simp; omega), World.cell?_alloc_past _ _ _ (by simp)]; simp
  have bl : ∀ k, Below w1.heap.size w1 (w1.drewN k) := fun k => below_drew (Below.refl _ _) k
  have bl' := bl
  clear hcl hfz
  have m1 : 2 ≤ m := by omega
  have m2 : m ≤ 64 := by omega
  have r0 : (0 : Int) ≤ (r : Int) := by omega
  have r1 : (0 : Int) ≤ (r : Int) + 1 := by omega
  have r2 : (r : Int) ≤ 63 := by omega
  have r3 : (r : Int) + 1 ≤ 63 := by omega
  have s1 : IntKind.i64.wrap ((r : Int) + 1) = (r : Int) + 1 := IntWalk.i64_in _ (by omega)
  go_region_held3 (fun w' => w'.cell? ⟨w.heap.size, 0, none⟩ = some (.int .i64 x) ∧ w'.cell? ⟨w.heap.size, 1, none⟩ = some (.int .i64 y) ∧ w'.cell? ⟨w.heap.size, 2, none⟩ = some (.int .i64 m) ∧ w'.cell? ⟨w.heap.size, 3, none⟩ = some (.int .i64 q) ∧ w'.cell? ⟨w.heap.size, 4, none⟩ = some (.int .i64 S) ∧ w'.cell? ⟨w.heap.size, 5, none⟩ = some (.slice (some ⟨b, off, none⟩) n c) ∧ Below w1.heap.size w1 w')
    (first | go_keep | (exact ⟨c0, c1, c2, c3, c4, c5, bl _⟩) | (exact ⟨k0, k1, k2, k3, k4, k5, kb⟩))
    ((go_at_call 44; (refine (line_S x y q S _ b off n c m w.heap.size w1 _ hs1 ?_ ?_ ?_ m1 m2 hn hcap hcm ?_ ?_ ?_ ?_ ?_ ?_ ?_).mono ?_); (first | exact r0 | exact r1); (first | exact r2 | exact r3); (first | exact l1 | exact l2); (first | exact k0 | exact c0); (first | exact k1 | exact c1); (first | exact k2 | exact c2); (first | exact k3 | exact c3); (first | exact k4 | exact c4); (first | exact k5 | exact c5); (first | exact kb | exact bl _); rintro e w' ⟨rfl, k0, k1, k2, k3, k4, k5, kb⟩))
  rename_i hHeld
  clear hHeld s1 c0 c1 c2 c3 c4 c5 k0 k1 k2 k3 k5 bl bl' l1 l2 r0 r1 r2 r3
  have KB := Lib.hid kb
  clear kb
  have FB := Lib.hid (below_step hb0.out KB.out)
  have hin : i + m + 1 < n := by
    have h1 : (r + 2) * m ≤ q * m := Nat.mul_le_mul_right m (by omega)
    rw [Nat.add_mul] at h1
    rw [HN.out, Nat.mul_comm m q]; omega
  have hem : (r + 1) * m = r * m + m := by rw [Nat.add_mul, Nat.one_mul]
  have e0 : w'.cell? ⟨b, off + r * m + k, none⟩ = some (.int .i64 (z i)) := by
    rw [show off + r * m + k = off + i by omega]; exact cell_in FB.out (HX.out i (by omega)) hb
  have e1 : w'.cell? ⟨b, off + r * m + (k + 1), none⟩ = some (.int .i64 (z (i + 1))) := by
    rw [show off + r * m + (k + 1) = off + (i + 1) by omega]; exact cell_in FB.out (HX.out (i + 1) (by omega)) hb
  have e2 : w'.cell? ⟨b, off + (r + 1) * m + k, none⟩ = some (.int .i64 (z (i + m))) := by
    rw [show off + (r + 1) * m + k = off + (i + m) by omega]; exact cell_in FB.out (HX.out (i + m) (by omega)) hb
  have e3 : w'.cell? ⟨b, off + (r + 1) * m + (k + 1), none⟩ = some (.int .i64 (z (i + m + 1))) := by
    rw [show off + (r + 1) * m + (k + 1) = off + (i + m + 1) by omega]; exact cell_in FB.out (HX.out (i + m + 1) (by omega)) hb
  clear hem
  obtain ⟨z0, z0'⟩ := HZ.out i (by omega)
  obtain ⟨z1, z1'⟩ := HZ.out (i + 1) (by omega)
  obtain ⟨z2, z2'⟩ := HZ.out (i + m) (by omega)
  obtain ⟨z3, z3'⟩ := HZ.out (i + m + 1) (by omega)
  have HT : Hid (Ter.htN z m S i (px - x - k * S) (py - y - r * S) = if py - y - r * S ≤ px - x - k * S then z i * S + (z (i + 1) - z i) * (px - x - k * S) + (z (i + m + 1) - z (i + 1)) * (py - y - r * S) else z i * S + (z (i + m) - z i) * (py - y - r * S) + (z (i + m + 1) - z (i + m)) * (px - x - k * S)) := Lib.hid rfl
  generalize Ter.htN z m S i (px - x - k * S) (py - y - r * S) = T at *
  generalize z i = za at *
  generalize z (i + 1) = zb at *
  generalize z (i + m) = zc at *
  generalize z (i + m + 1) = zd at *
  go_wp2_with fail
  have v0 : (0 : Int) ≤ (k : Int) := by omega
  have v1 : (k : Int) < (m : Int) := by omega
  have v2 : (0 : Int) ≤ (k : Int) + 1 := by omega
  have v3 : (k : Int) + 1 < (m : Int) := by omega
  have s1 : IntKind.i64.wrap ((k : Int) + 1) = (k : Int) + 1 := IntWalk.i64_in _ (by omega)
  have t1 : ((k : Int) + 1).toNat = k + 1 := by omega
  go_quiet (fail)
  clear e0 e1 e2 e3 v0 v1 v2 v3 s1 t1
  obtain ⟨u1, u1'⟩ := Ter.mul_part (d := za) (u := S) (by omega) (by omega) (by omega) g10
  obtain ⟨u2, u2'⟩ := Ter.mul_part (d := zb - za) (u := px - x - k * S) (by omega) (by omega) (by omega) (by omega)
  obtain ⟨u3, u3'⟩ := Ter.mul_part (d := zd - zb) (u := py - y - r * S) (by omega) (by omega) (by omega) (by omega)
  obtain ⟨u4, u4'⟩ := Ter.mul_part (d := zc - za) (u := py - y - r * S) (by omega) (by omega) (by omega) (by omega)
  obtain ⟨u5, u5'⟩ := Ter.mul_part (d := zd - zc) (u := px - x - k * S) (by omega) (by omega) (by omega) (by omega)
  by_cases huv : py - y - r * S ≤ px - x - k * S
  all_goals
    have hT := HT.out
    first | rw [if_pos huv] at hT | rw [if_neg huv] at hT
    have HT2 := Lib.hid hT
    have hTb : -100000000000 ≤ T ∧ T ≤ 100000000000 := by rw [hT]; constructor <;> omega
    have MK := Lib.hid (Num.mk_small (a := T) (b := S) (by omega) (by omega) (by omega) (by omega))
    have MA := Lib.hid (make_any T S)
    clear hT HT
    go_wp2_with fail
    rw [← HT2.out]
    refine (MA.out _ ⟨by omega, by omega⟩ ⟨by omega, by omega⟩).mono ?_
    rintro e w3 ⟨rfl, hb3⟩
    rw [MK.out.1]
    have hbk : w3.heap[w.heap.size + 1 + 1]? = some (.cells #[.int .i64 0, .int .i64 0] 44 (0, 0)) := by
      rw [hb3.block _ (by have := KB.out.size; show w.heap.size + 1 + 1 < w'.heap.size; omega)]
      show w'.heap[w.heap.size + 1 + 1]? = _
      rw [KB.out.block _ (by omega), B1.out.block _ (by simp)]
      exact frac_new _ _ _ _ _
    have HBK := Lib.hid hbk
    have FB3 := Lib.hid (below_step (below_drew FB.out _) hb3)
    obtain ⟨⟨j0, j1⟩, jf0, jf1⟩ := frac_cells hbk
    clear hb3 hbk k4
    go_wp2
    have hblk := frac_store (u0 := .int .i64 (mkN T S)) (u1 := .int .i64 (mkD T S)) HBK.out
    obtain ⟨⟨y0, y1⟩, -⟩ := frac_cells hblk
    exact bodyPost_ret (v := .tuple #[.agg #[.int .i64 (mkN T S), .int .i64 (mkD T S)], .int .i64 0]) (by simp [results, Try.results31, go_sem, y0, y1]) rfl ⟨rfl, (FB3.out.setCell (p := ⟨w.heap.size + 1 + 1, 0, none⟩) (by show w.heap.size ≤ w.heap.size + 1 + 1; omega) _).setCell (p := ⟨w.heap.size + 1 + 1, 1, none⟩) (by show w.heap.size ≤ w.heap.size + 1 + 1; omega) _⟩
end Go.Proofs.Ythgdmcjahldihaa
