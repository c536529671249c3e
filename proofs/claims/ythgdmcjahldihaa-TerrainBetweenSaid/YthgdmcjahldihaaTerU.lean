/- TerrainBetween: cells, the law's whole, the corners. -/
import Derived.Test.YthgdmcjahldihaaTerH
import Derived.Test.YthgdmcjahldihaaTerF
import Derived.Test.YthgdmcjahldihaaTerE
import Derived.Test.YthgdmcjahldihaaTerL
import Derived.Test.YthgdmcjahldihaaTerK
import Derived.Test.YthgdmcjahldihaaTerPlainH
import Derived.Test.YthgdmcjahldihaaNumE
import Derived.Test.YthgdmcjahldihaaBox
import Derived.Deep.DeepCutAuto
namespace Go.Proofs.Ythgdmcjahldihaa
open Go.RowKit
open Num Ter
set_option linter.unusedVariables false
/-- a grid and a point in boxes -/
def Bt (w v : World) (x y W H S : Int) (A : Option Addr) (n c : Nat) (px py : Int) : Prop :=
  v.cell? ⟨w.heap.size, 0, none⟩ = some (.int .i64 x) ∧ v.cell? ⟨w.heap.size, 1, none⟩ = some (.int .i64 y) ∧ v.cell? ⟨w.heap.size, 2, none⟩ = some (.int .i64 W) ∧ v.cell? ⟨w.heap.size, 3, none⟩ = some (.int .i64 H) ∧ v.cell? ⟨w.heap.size, 4, none⟩ = some (.int .i64 S) ∧ v.cell? ⟨w.heap.size, 5, none⟩ = some (.slice A n c) ∧
  v.cell? ⟨w.heap.size + 1, 0, none⟩ = some (.int .i64 px) ∧ v.cell? ⟨w.heap.size + 1, 1, none⟩ = some (.int .i64 py) ∧ Below w.heap.size w v
theorem Bt.later {w v u : World} {x y W H S : Int} {A : Option Addr} {n c : Nat} {px py : Int} (h : Bt w v x y W H S A n c px py) (hb : Below v.heap.size v u) : Bt w u x y W H S A n c px py := by
  obtain ⟨h0, h1, h2, h3, h4, h5, h6, h7, g⟩ := h
  exact ⟨cell_on h0 hb, cell_on h1 hb, cell_on h2 hb, cell_on h3 hb, cell_on h4 hb, cell_on h5 hb, cell_on h6 hb, cell_on h7 hb, below_on g hb⟩
theorem Bt.new (w : World) (x y W H S : Int) (A : Option Addr) (n c : Nat) (px py : Int) :
    Bt w ((w.alloc (.cells #[.int .i64 x, .int .i64 y, .int .i64 W, .int .i64 H, .int .i64 S, .slice A n c] 26)).alloc (.cells #[.int .i64 px, .int .i64 py] 23)) x y W H S A n c px py := by
  have e1 : (w.alloc (.cells #[.int .i64 x, .int .i64 y, .int .i64 W, .int .i64 H, .int .i64 S, .slice A n c] 26)).heap.size = w.heap.size + 1 := by simp
  refine ⟨cell_al (by simp) _, cell_al (by simp) _, cell_al (by simp) _, cell_al (by simp) _, cell_al (by simp) _, cell_al (by simp) _, ?_, ?_, below_on (below_al w _) (below_al _ _)⟩
  · rw [← e1]; exact (cell_new2 _).1
  · rw [← e1]; exact (cell_new2 _).2
theorem Bt.ints {w v : World} {x y W H S : Int} {A : Option Addr} {n c : Nat} {px py : Int} {z : Nat → Int} (h : Bt w v x y W H S A n c px py) (hI : Ints w w.heap.size A n z) : Ints v v.heap.size A n z := hI.later h.2.2.2.2.2.2.2.2
set_option maxHeartbeats 400000 in
theorem whole_any (n : Int) (w : World) : Calls Try.prog 36 #[.int .i64 n] w fun e w' => e = .returned (.agg #[.int .i64 n, .int .i64 1]) ∧ Below w.heap.size w w' := by
  go_enter Try.func36, Try.ntmps36
  go_wp2
  go_returns
  exact ⟨rfl, by go_grown⟩
/-- the heights of the corners of a cell, in the law's order -/
def zc (z : Nat → Int) (m k r j : Nat) : Int := z ((r + j / 2) * m + (k + j % 2))
def cLo (z : Nat → Int) (m k r : Nat) : Nat → Int
  | 0 => 0
  | j + 1 => if j = 0 then zc z m k r 0 else min (cLo z m k r j) (zc z m k r j)
def cHi (z : Nat → Int) (m k r : Nat) : Nat → Int
  | 0 => 0
  | j + 1 => if j = 0 then zc z m k r 0 else max (cHi z m k r j) (zc z m k r j)
theorem corners (z : Nat → Int) (m k r : Nat) : cLo z m k r 4 = min (min (min (zc z m k r 0) (zc z m k r 1)) (zc z m k r 2)) (zc z m k r 3) ∧ cHi z m k r 4 = max (max (max (zc z m k r 0) (zc z m k r 1)) (zc z m k r 2)) (zc z m k r 3) := by
  constructor <;> simp [cLo, cHi]
theorem zc_at (z : Nat → Int) (m k r : Nat) : zc z m k r 0 = z (r * m + k) ∧ zc z m k r 1 = z (r * m + k + 1) ∧ zc z m k r 2 = z (r * m + k + m) ∧ zc z m k r 3 = z (r * m + k + m + 1) := by
  unfold zc
  refine ⟨rfl, rfl, ?_, ?_⟩
  · exact congrArg z (by rw [show (2 : Nat) / 2 = 1 by rfl, Nat.add_mul, Nat.one_mul]; omega)
  · exact congrArg z (by rw [show (3 : Nat) / 2 = 1 by rfl, Nat.add_mul, Nat.one_mul]; omega)
/-- the numbers of the law's last line -/
theorem last_facts {x y W H S : Int} {n : Nat} {z : Nat → Int} {px py : Int} (h : Ter.chk x y W H S n z = 0) (h' : Ins x y W H S px py) :
    ∃ m q k r : Nat, W = m ∧ H = q ∧ stp (px - x) S W = k ∧ stp (py - y) S H = r ∧ k + 2 ≤ m ∧ r + 2 ≤ q ∧ n = m * q ∧
      I64 (hgN x y W H S n z px py) ∧ I64 (hgD x y W H S n z px py) ∧ I64 (cLo z m k r 4) ∧ I64 (cHi z m k r 4) ∧
      cmpF (cLo z m k r 4) 1 (hgN x y W H S n z px py) (hgD x y W H S n z px py) ≤ 0 ∧ cmpF (hgN x y W H S n z px py) (hgD x y W H S n z px py) (cHi z m k r 4) 1 ≤ 0 ∧
      exLo x y W H S n z ≤ cLo z m k r 4 ∧ cHi z m k r 4 ≤ exHi x y W H S n z ∧ (∀ j, j < 4 → -10000 ≤ zc z m k r j ∧ zc z m k r j ≤ 10000) := by
  obtain ⟨m, q, k, r, rfl, rfl, hk, hr, hk2, hr2, hn, hlt, hN, hD, hC⟩ := hg_cell h h'
  obtain ⟨-, -, hz⟩ := Ter.chk_zero h
  obtain ⟨z0, z1, z2, z3⟩ := zc_at z m k r
  obtain ⟨c1, c2⟩ := corners z m k r
  have b0 := hz (r * m + k) (by omega)
  have b1 := hz (r * m + k + 1) (by omega)
  have b2 := hz (r * m + k + m) (by omega)
  have b3 := hz (r * m + k + m + 1) hlt
  have m0 := mn_le z n (r * m + k) (by omega)
  have m1 := mn_le z n (r * m + k + 1) (by omega)
  have m2 := mn_le z n (r * m + k + m) (by omega)
  have m3 := mn_le z n (r * m + k + m + 1) hlt
  rw [← z0] at b0 m0
  rw [← z1] at b1 m1
  rw [← z2] at b2 m2
  rw [← z3] at b3 m3
  obtain ⟨s1, s2⟩ := hC (cLo z m k r 4) (cHi z m k r 4) (by rw [← z0]; omega) (by rw [← z1]; omega) (by rw [← z2]; omega) (by rw [← z3]; omega)
  refine ⟨m, q, k, r, rfl, rfl, hk, hr, hk2, hr2, hn, ⟨by omega, by omega⟩, ⟨by omega, by omega⟩, ⟨by omega, by omega⟩, ⟨by omega, by omega⟩, s1, s2, ?_, ?_, ?_⟩
  · unfold exLo; rw [if_pos h]; omega
  · unfold exHi; rw [if_pos h]; omega
  · intro j hj
    match j, hj with
    | 0, _ => exact b0
    | 1, _ => exact b1
    | 2, _ => exact b2
    | 3, _ => exact b3
end Go.Proofs.Ythgdmcjahldihaa
