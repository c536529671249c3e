/- Plain laws of heights and peaks: a grid that is raised. -/
import Derived.Test.YthgdmcjahldihaaTerPlainD
import Derived.Test.YthgdmcjahldihaaTerPlainE
set_option linter.unusedVariables false
namespace Go.Proofs.Ythgdmcjahldihaa.Ter
open Num (mkN mkD mkE mk_small mk_raise)
theorem htN_raise (z : Nat → Int) (d : Int) (m : Nat) (S : Int) (i : Nat) (u v : Int) : htN (fun j => z j + d) m S i u v = htN z m S i u v + d * S := by
  unfold htN
  dsimp only
  have e1 : ∀ a b : Int, (a + d) - (b + d) = a - b := fun a b => by omega
  rw [e1, e1, e1, e1, Int.add_mul]
  split <;> omega
theorem hgT_raise (x y W H S : Int) (z : Nat → Int) (d px py : Int) : hgT x y W H S (fun j => z j + d) px py = hgT x y W H S z px py + d * S := htN_raise z d _ _ _ _ _
/-- the numerator of a height is small -/
theorem hgT_small {x y W H S : Int} {n : Nat} {z : Nat → Int} {px py : Int} (h : chk x y W H S n z = 0) (h' : Ins x y W H S px py) : -100000000000 ≤ hgT x y W H S z px py ∧ hgT x y W H S z px py ≤ 100000000000 := by
  obtain ⟨m, q, k, r, rfl, rfl, hk, hr, hT⟩ := ins_nat h h'
  rw [hT]
  obtain ⟨⟨-, -, ⟨g5, g6⟩, ⟨g7, g8⟩, ⟨g9, g10⟩, -, -⟩, hn, hz⟩ := chk_zero h
  obtain ⟨⟨c1, c2⟩, r1, r2⟩ := h'
  obtain ⟨f1, f2, f3, f4⟩ := stp_facts (X := px - x) (S := S) (M := m) (k := k) (by omega) (by omega) (by omega) g9 hk
  obtain ⟨f5, f6, f7, f8⟩ := stp_facts (X := py - y) (S := S) (M := q) (k := r) (by omega) (by omega) (by omega) g9 hr
  have hn' : n = m * q := by exact_mod_cast hn
  have hin : r * m + k + m + 1 < n := by
    have h1 : (r + 2) * m ≤ q * m := Nat.mul_le_mul_right m (by omega)
    rw [Nat.add_mul] at h1
    rw [hn', Nat.mul_comm m q]; omega
  obtain ⟨z0, z0'⟩ := hz (r * m + k) (by omega)
  obtain ⟨z1, z1'⟩ := hz (r * m + k + 1) (by omega)
  obtain ⟨z2, z2'⟩ := hz (r * m + k + m) (by omega)
  obtain ⟨z3, z3'⟩ := hz (r * m + k + m + 1) (by omega)
  unfold htN
  generalize z (r * m + k) = za at *
  generalize z (r * m + k + 1) = zb at *
  generalize z (r * m + k + m) = zc at *
  generalize z (r * m + k + m + 1) = zd at *
  obtain ⟨u1, u1'⟩ := mul_part (d := za) (u := S) (by omega) (by omega) (by omega) g10
  obtain ⟨u2, u2'⟩ := mul_part (d := zb - za) (u := px - x - k * S) (by omega) (by omega) (by omega) (by omega)
  obtain ⟨u3, u3'⟩ := mul_part (d := zd - zb) (u := py - y - r * S) (by omega) (by omega) (by omega) (by omega)
  obtain ⟨u4, u4'⟩ := mul_part (d := zc - za) (u := py - y - r * S) (by omega) (by omega) (by omega) (by omega)
  obtain ⟨u5, u5'⟩ := mul_part (d := zd - zc) (u := px - x - k * S) (by omega) (by omega) (by omega) (by omega)
  split <;> constructor <;> omega
/-- what Height returns is small -/
theorem hg_small {x y W H S : Int} {n : Nat} {z : Nat → Int} {px py : Int} (h : chk x y W H S n z = 0) :
    (-100000000000 ≤ hgN x y W H S n z px py ∧ hgN x y W H S n z px py ≤ 100000000000) ∧ (0 ≤ hgD x y W H S n z px py ∧ hgD x y W H S n z px py ≤ 1048576) := by
  by_cases h' : Ins x y W H S px py
  · obtain ⟨e1, e2, e3⟩ := hg_in h h'
    obtain ⟨⟨-, -, -, -, ⟨g9, g10⟩, -, -⟩, -, -⟩ := chk_zero h
    have hs := hgT_small h h'
    obtain ⟨p1, p2, p3, p4, p5, p6, p7, p8, -⟩ := mk_small (a := hgT x y W H S z px py) (b := S) (by omega) (by omega) (by omega) (by omega)
    rw [e2, e3]
    refine ⟨?_, by omega, by omega⟩
    generalize mkN (hgT x y W H S z px py) S = N at *
    generalize hgT x y W H S z px py = T at *
    have hg : (1 : Int) ≤ (Num.gd T S : Int) := by omega
    generalize (Num.gd T S : Int) = g at *
    rcases Int.lt_or_le N 0 with hN | hN
    · have := Int.mul_le_mul_of_nonneg_left (c := -N) hg (by omega)
      rw [Int.neg_mul, Int.neg_mul] at this; omega
    · have := Int.mul_le_mul_of_nonneg_left (c := N) hg hN
      omega
  · obtain ⟨e1, e2, e3⟩ := hg_out h h'
    rw [e2, e3]; omega
theorem hg_raise {x y W H S : Int} {n : Nat} {z : Nat → Int} {d px py : Int} (h : chk x y W H S n z = 0) (h2 : chk x y W H S n (fun j => z j + d) = 0) (d1 : -32768 ≤ d) (d2 : d ≤ 32767) :
    hgE x y W H S n (fun j => z j + d) px py = hgE x y W H S n z px py ∧ hgD x y W H S n (fun j => z j + d) px py = hgD x y W H S n z px py ∧ hgN x y W H S n (fun j => z j + d) px py = hgN x y W H S n z px py + d * hgD x y W H S n z px py := by
  by_cases h' : Ins x y W H S px py
  · obtain ⟨e1, e2, e3⟩ := hg_in h h'
    obtain ⟨f1, f2, f3⟩ := hg_in h2 h'
    obtain ⟨⟨-, -, -, -, ⟨g9, g10⟩, -, -⟩, -, -⟩ := chk_zero h
    have hs := hgT_small h h'
    have hd : -34359738368 ≤ d * S ∧ d * S ≤ 34359738368 := by
      have a := Int.mul_le_mul_of_nonneg_right d2 (show 0 ≤ S by omega)
      have b := Int.mul_le_mul_of_nonneg_right d1 (show 0 ≤ S by omega)
      omega
    have hm := mk_raise (a := hgT x y W H S z px py) (b := S) (n := d) (by omega) (by omega) (by omega) (by omega) (by omega) (by omega)
    rw [e1, e2, e3, f1, f2, f3, hgT_raise]
    exact ⟨rfl, hm.2.2.1, hm.2.2.2⟩
  · obtain ⟨e1, e2, e3⟩ := hg_out h h'
    obtain ⟨f1, f2, f3⟩ := hg_out h2 h'
    rw [e1, e2, e3, f1, f2, f3]
    exact ⟨rfl, rfl, by omega⟩
theorem pkB_raise (z : Nat → Int) (d : Int) (m q k r : Nat) : pkB (fun j => z j + d) m q k r = pkB z m q k r := by
  unfold pkB
  have e : ∀ c' r', Bad (fun j => z j + d) m q k r c' r' ↔ Bad z m q k r c' r' := fun c' r' => by
    unfold Bad; dsimp only; constructor <;> (rintro ⟨h1, h2, h3, h4⟩; exact ⟨h1, h2, h3, by omega⟩)
  simp only [e]
theorem pkL_raise (z : Nat → Int) (d : Int) (m q : Nat) (x y S : Int) (t : Nat) : pkL (fun j => z j + d) m q x y S t = pkL z m q x y S t := by
  induction t with
  | zero => rfl
  | succ t ih => unfold pkL pkO; rw [ih, pkB_raise]
end Go.Proofs.Ythgdmcjahldihaa.Ter
