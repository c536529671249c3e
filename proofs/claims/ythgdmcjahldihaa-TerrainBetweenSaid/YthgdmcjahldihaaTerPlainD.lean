/- Plain words for what Height returns. -/
import Derived.Test.YthgdmcjahldihaaTerPlainC
import Derived.Test.YthgdmcjahldihaaNumPlainC
set_option linter.unusedVariables false
namespace Go.Proofs.Ythgdmcjahldihaa.Ter
open Num (mkN mkD mkE)
/-- a point lies in the grid -/
def Ins (x y W H S px py : Int) : Prop := (x ≤ px ∧ px ≤ x + (W - 1) * S) ∧ (y ≤ py ∧ py ≤ y + (H - 1) * S)
instance (x y W H S px py : Int) : Decidable (Ins x y W H S px py) := by unfold Ins; infer_instance
def hgT (x y W H S : Int) (z : Nat → Int) (px py : Int) : Int :=
  htN z W.toNat S (stp (py - y) S H * W + stp (px - x) S W).toNat (px - x - stp (px - x) S W * S) (py - y - stp (py - y) S H * S)
def hgE (x y W H S : Int) (n : Nat) (z : Nat → Int) (px py : Int) : Int :=
  if chk x y W H S n z = 0 then (if Ins x y W H S px py then 0 else 7) else chk x y W H S n z
def hgN (x y W H S : Int) (n : Nat) (z : Nat → Int) (px py : Int) : Int := if hgE x y W H S n z px py = 0 then mkN (hgT x y W H S z px py) S else 0
def hgD (x y W H S : Int) (n : Nat) (z : Nat → Int) (px py : Int) : Int := if hgE x y W H S n z px py = 0 then mkD (hgT x y W H S z px py) S else 0
theorem hg_err {x y W H S : Int} {n : Nat} {z : Nat → Int} {px py : Int} (h : chk x y W H S n z ≠ 0) :
    hgE x y W H S n z px py = chk x y W H S n z ∧ hgN x y W H S n z px py = 0 ∧ hgD x y W H S n z px py = 0 := by
  have e : hgE x y W H S n z px py = chk x y W H S n z := by unfold hgE; rw [if_neg h]
  exact ⟨e, by unfold hgN; rw [e, if_neg h], by unfold hgD; rw [e, if_neg h]⟩
theorem hg_out {x y W H S : Int} {n : Nat} {z : Nat → Int} {px py : Int} (h : chk x y W H S n z = 0) (h' : ¬ Ins x y W H S px py) :
    hgE x y W H S n z px py = 7 ∧ hgN x y W H S n z px py = 0 ∧ hgD x y W H S n z px py = 0 := by
  have e : hgE x y W H S n z px py = 7 := by unfold hgE; rw [if_pos h, if_neg h']
  exact ⟨e, by unfold hgN; rw [e]; rfl, by unfold hgD; rw [e]; rfl⟩
theorem hg_in {x y W H S : Int} {n : Nat} {z : Nat → Int} {px py : Int} (h : chk x y W H S n z = 0) (h' : Ins x y W H S px py) :
    hgE x y W H S n z px py = 0 ∧ hgN x y W H S n z px py = mkN (hgT x y W H S z px py) S ∧ hgD x y W H S n z px py = mkD (hgT x y W H S z px py) S := by
  have e : hgE x y W H S n z px py = 0 := by unfold hgE; rw [if_pos h, if_pos h']
  exact ⟨e, by unfold hgN; rw [if_pos e], by unfold hgD; rw [if_pos e]⟩
/-- the cell of a point of a valid grid -/
theorem ins_nat {x y W H S : Int} {n : Nat} {z : Nat → Int} {px py : Int} (h : chk x y W H S n z = 0) (h' : Ins x y W H S px py) :
    ∃ m q k r : Nat, W = m ∧ H = q ∧ stp (px - x) S m = k ∧ stp (py - y) S q = r ∧ hgT x y W H S z px py = htN z m S (r * m + k) (px - x - k * S) (py - y - r * S) := by
  obtain ⟨⟨-, -, ⟨g5, g6⟩, ⟨g7, g8⟩, ⟨g9, g10⟩, -, -⟩, hn, hz⟩ := chk_zero h
  obtain ⟨⟨c1, c2⟩, r1, r2⟩ := h'
  obtain ⟨m, rfl⟩ := Int.eq_ofNat_of_zero_le (show 0 ≤ W by omega)
  obtain ⟨q, rfl⟩ := Int.eq_ofNat_of_zero_le (show 0 ≤ H by omega)
  obtain ⟨k, hk⟩ := stp_nat (X := px - x) (S := S) (M := m) (by omega) g5 g9
  obtain ⟨r, hr⟩ := stp_nat (X := py - y) (S := S) (M := q) (by omega) g7 g9
  refine ⟨m, q, k, r, rfl, rfl, hk, hr, ?_⟩
  unfold hgT
  rw [hk, hr]
  have e : ((r : Int) * m + k).toNat = r * m + k := by
    have : (r : Int) * m + k = ((r * m + k : Nat) : Int) := by push_cast; rfl
    rw [this]; rfl
  rw [e]; rfl
end Go.Proofs.Ythgdmcjahldihaa.Ter
