/- Plain laws of heights and peaks: a grid that is moved. -/
import Derived.Test.YthgdmcjahldihaaTerPlainF
set_option linter.unusedVariables false
namespace Go.Proofs.Ythgdmcjahldihaa.Ter
open Num (mkN mkD mkE)
theorem hg_move {x y W H S : Int} {n : Nat} {z : Nat → Int} {dx dy px py : Int} (h : chk x y W H S n z = 0) (h2 : chk (x + dx) (y + dy) W H S n z = 0) :
    hgE (x + dx) (y + dy) W H S n z (px + dx) (py + dy) = hgE x y W H S n z px py ∧ hgN (x + dx) (y + dy) W H S n z (px + dx) (py + dy) = hgN x y W H S n z px py ∧ hgD (x + dx) (y + dy) W H S n z (px + dx) (py + dy) = hgD x y W H S n z px py := by
  have e1 : px + dx - (x + dx) = px - x := by omega
  have e2 : py + dy - (y + dy) = py - y := by omega
  have hT : hgT (x + dx) (y + dy) W H S z (px + dx) (py + dy) = hgT x y W H S z px py := by unfold hgT; rw [e1, e2]
  by_cases h' : Ins x y W H S px py
  · have h'' : Ins (x + dx) (y + dy) W H S (px + dx) (py + dy) := by obtain ⟨⟨a, b⟩, c, d⟩ := h'; exact ⟨⟨by omega, by omega⟩, by omega, by omega⟩
    obtain ⟨a1, a2, a3⟩ := hg_in h h'
    obtain ⟨b1, b2, b3⟩ := hg_in h2 h''
    rw [a1, a2, a3, b1, b2, b3, hT]; exact ⟨rfl, rfl, rfl⟩
  · have h'' : ¬ Ins (x + dx) (y + dy) W H S (px + dx) (py + dy) := fun hx => h' (by obtain ⟨⟨a, b⟩, c, d⟩ := hx; exact ⟨⟨by omega, by omega⟩, by omega, by omega⟩)
    obtain ⟨a1, a2, a3⟩ := hg_out h h'
    obtain ⟨b1, b2, b3⟩ := hg_out h2 h''
    rw [a1, a2, a3, b1, b2, b3]; exact ⟨rfl, rfl, rfl⟩
theorem pkL_move (z : Nat → Int) (m q : Nat) (x y dx dy S : Int) (t : Nat) : pkL z m q (x + dx) (y + dy) S t = (pkL z m q x y S t).map fun p => (p.1 + dx, p.2 + dy) := by
  induction t with
  | zero => rfl
  | succ t ih =>
    unfold pkL pkO
    rw [ih, List.map_append]
    congr 1
    split
    · simp; omega
    · rfl
/-- all peaks of a valid grid are small points -/
theorem pkL_small {z : Nat → Int} {m q : Nat} {x y S : Int} (hx : -1048576 ≤ x ∧ x ≤ 1048576) (hy : -1048576 ≤ y ∧ y ≤ 1048576) (hS : 1 ≤ S ∧ S ≤ 1048576) (hm : 2 ≤ m ∧ m ≤ 64) (t : Nat) (ht : t ≤ 64 * m) :
    ∀ p ∈ pkL z m q x y S t, (-1048576 ≤ p.1 ∧ p.1 ≤ 70000000) ∧ (-1048576 ≤ p.2 ∧ p.2 ≤ 70000000) := by
  induction t with
  | zero => intro p hp; simp [pkL] at hp
  | succ t ih =>
    intro p hp
    unfold pkL at hp
    rcases List.mem_append.1 hp with hp | hp
    · exact ih (by omega) p hp
    · unfold pkO at hp
      split at hp
      · simp only [List.mem_singleton] at hp
        subst hp
        have h1 : t % m < m := Nat.mod_lt _ (by omega)
        have h2 : t / m < 64 := Nat.div_lt_of_lt_mul (by rw [Nat.mul_comm]; omega)
        generalize t / m = tq at *
        generalize t % m = tr at *
        have b1 := mul_bound (a := (tr : Int)) (b := S) (A := 64) (B := 1048576) (by omega) (by omega) (by omega) (by omega)
        have b2 := mul_bound (a := (tq : Int)) (b := S) (A := 64) (B := 1048576) (by omega) (by omega) (by omega) (by omega)
        dsimp only
        omega
      · simp at hp
end Go.Proofs.Ythgdmcjahldihaa.Ter
