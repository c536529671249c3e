/- Plain words for layer ink: operations, plates, what an operation covers. No program in sight. -/
import Derived.Test.YtjclioakdmilmaaInkPlainB
import Derived.Test.YtjclioakdmilmaaNumPlainI
set_option linter.unusedVariables false
namespace Go.Proofs.Ytjclioakdmilmaa.Ink
open Num
/-- an operation: its kind, its box, its path, its inks -/
structure Dr where
  k : Int
  x0 : Int
  y0 : Int
  x1 : Int
  y1 : Int
  l : List (Int × Int)
  a : Int
  b : Int
  c : Int
  d : Int
def Dr.err (x : Dr) : Int := ckE x.k x.x0 x.y0 x.x1 x.y1 x.l x.a x.b x.c x.d
/-- the ink of a plate -/
def Dr.ink (x : Dr) (i : Nat) : Int := if i = 0 then x.a else if i = 1 then x.b else if i = 2 then x.c else x.d
/-- the inks of the cells of four plates -/
abbrev Pic := Nat → Nat → Int
/-- one cell of all plates gets inks, if it lies on the plates -/
def putC (w h : Int) (ik : Nat → Int) (p : Int × Int) (V : Pic) : Pic := fun i j => if (0 ≤ p.1 ∧ p.1 < w ∧ 0 ≤ p.2 ∧ p.2 < h) ∧ (j : Int) = p.2 * w + p.1 then ik i else V i j
def putL (w h : Int) (ik : Nat → Int) (l : List (Int × Int)) (V : Pic) : Pic := l.foldl (fun V p => putC w h ik p V) V
/-- the cells of a path's first k + 1 points -/
def pth (l : List (Int × Int)) : Nat → List (Int × Int)
  | 0 => [l.getD 0 (0, 0)]
  | k + 1 => pth l k ++ cels (l.getD k (0, 0)).1 (l.getD k (0, 0)).2 (l.getD (k + 1) (0, 0)).1 (l.getD (k + 1) (0, 0)).2
theorem putL_append (w h : Int) (ik : Nat → Int) (l l' : List (Int × Int)) (V : Pic) : putL w h ik (l ++ l') V = putL w h ik l' (putL w h ik l V) := List.foldl_append
theorem putL_one (w h : Int) (ik : Nat → Int) (p : Int × Int) (V : Pic) : putL w h ik [p] V = putC w h ik p V := rfl
theorem pth_step (l : List (Int × Int)) (k : Nat) (h : k + 1 < l.length) : pth l (k + 1) = pth l k ++ cels l[k].1 l[k].2 l[k + 1].1 l[k + 1].2 := by
  have h' : k < l.length := by omega
  simp [pth, h, h']
theorem pth_zero (l : List (Int × Int)) (h : 0 < l.length) : pth l 0 = [l[0]] := by
  simp [pth, h]
/-- the box of an operation gets its inks -/
def filP (W : Nat) (x0 y0 x1 y1 : Int) (ik : Nat → Int) (V : Pic) : Pic := fun i j => if x0 ≤ ((j % W : Nat) : Int) ∧ ((j % W : Nat) : Int) ≤ x1 ∧ y0 ≤ ((j / W : Nat) : Int) ∧ ((j / W : Nat) : Int) ≤ y1 then ik i else V i j
/-- cell j lies in one of the rows from Y0 on, ahead of y, L cells from column X0 on -/
def rowsP (W X0 L Y0 y j : Nat) : Prop := ∃ r, Y0 ≤ r ∧ r < y ∧ r * W + X0 ≤ j ∧ j < r * W + X0 + L
open Classical in
/-- while the box is filled: rows ahead of y; of row y the plates ahead of k, and m cells of plate k -/
noncomputable def fl3 (W X0 L Y0 : Nat) (ik : Nat → Int) (V : Pic) (y k m : Nat) : Pic := fun i j => if rowsP W X0 L Y0 y j ∨ (i < k ∧ y * W + X0 ≤ j ∧ j < y * W + X0 + L) ∨ (i = k ∧ y * W + X0 ≤ j ∧ j < y * W + X0 + m) then ik i else V i j
theorem fl3_start (W X0 L Y0 : Nat) (ik : Nat → Int) (V : Pic) (i j : Nat) : fl3 W X0 L Y0 ik V Y0 0 0 i j = V i j := by
  unfold fl3; rw [if_neg]
  rintro (⟨r, h1, h2, -⟩ | h | h) <;> omega
theorem fl3_set (W X0 L Y0 : Nat) (ik : Nat → Int) (V : Pic) (y k m i j : Nat) : fl3 W X0 L Y0 ik V y k (m + 1) i j = (if i = k ∧ j = y * W + X0 + m then ik k else fl3 W X0 L Y0 ik V y k m i j) := by
  unfold fl3
  by_cases h : i = k ∧ j = y * W + X0 + m
  · obtain ⟨rfl, rfl⟩ := h
    rw [if_pos (.inr (.inr ⟨rfl, by omega, by omega⟩)), if_pos ⟨rfl, rfl⟩]
  · rw [if_neg h]
    congr 1
    apply propext
    constructor
    · rintro (h1 | h1 | h1)
      · exact .inl h1
      · exact .inr (.inl h1)
      · exact .inr (.inr ⟨h1.1, h1.2.1, by have : ¬ j = y * W + X0 + m := fun e => h ⟨h1.1, e⟩; omega⟩)
    · rintro (h1 | h1 | h1)
      · exact .inl h1
      · exact .inr (.inl h1)
      · exact .inr (.inr ⟨h1.1, h1.2.1, by omega⟩)
theorem fl3_plate (W X0 L Y0 : Nat) (ik : Nat → Int) (V : Pic) (y k i j : Nat) : fl3 W X0 L Y0 ik V y (k + 1) 0 i j = fl3 W X0 L Y0 ik V y k L i j := by
  unfold fl3
  congr 1
  apply propext
  constructor
  · rintro (h1 | h1 | h1)
    · exact .inl h1
    · by_cases e : i < k
      · exact .inr (.inl ⟨e, h1.2⟩)
      · exact .inr (.inr ⟨by omega, h1.2⟩)
    · omega
  · rintro (h1 | h1 | h1)
    · exact .inl h1
    · exact .inr (.inl ⟨by omega, h1.2⟩)
    · exact .inr (.inl ⟨by omega, h1.2⟩)
theorem fl3_row (W X0 L Y0 : Nat) (ik : Nat → Int) (V : Pic) (y i j : Nat) (hy : Y0 ≤ y) (hi : i < 4) : fl3 W X0 L Y0 ik V (y + 1) 0 0 i j = fl3 W X0 L Y0 ik V y 4 0 i j := by
  unfold fl3
  congr 1
  apply propext
  constructor
  · rintro (⟨r, h1, h2, h3, h4⟩ | h1 | h1)
    · by_cases e : r = y
      · subst e; exact .inr (.inl ⟨hi, h3, h4⟩)
      · exact .inl ⟨r, h1, by omega, h3, h4⟩
    · omega
    · omega
  · rintro (⟨r, h1, h2, h3, h4⟩ | h1 | h1)
    · exact .inl ⟨r, h1, by omega, h3, h4⟩
    · exact .inl ⟨y, hy, by omega, h1.2⟩
    · omega
/-- the end: all rows of the box -/
theorem fl3_end (W X0 L Y0 y : Nat) (x0 y0 x1 y1 H : Int) (ik : Nat → Int) (V : Pic) (i j : Nat) (hW : 0 < W) (hX : (X0 : Int) = max x0 0) (hL : (X0 : Int) + L = min x1 (W - 1) + 1) (hL1 : X0 + L ≤ W) (hY : (Y0 : Int) = max y0 0)
    (hy : ((y : Int) = min y1 (H - 1) + 1) ∨ (y = Y0 ∧ min y1 (H - 1) < (y : Int))) (hj : (j : Int) < W * H) : filP W x0 y0 x1 y1 ik V i j = fl3 W X0 L Y0 ik V y 0 0 i j := by
  unfold filP fl3
  congr 1
  have hq : j % W < W := Nat.mod_lt _ hW
  have he : W * (j / W) + j % W = j := Nat.div_add_mod _ _
  have hu : ∀ r, r * W ≤ j → j < (r + 1) * W → j / W = r := fun r h1 h2 => Nat.div_eq_of_lt_le h1 h2
  generalize j / W = R at *
  generalize j % W = q at *
  have hr : (R : Int) < H := by
    have h0 : (W : Int) * (R : Int) + (q : Int) = (j : Int) := by exact_mod_cast he
    have h1 : (W : Int) * (R : Int) < W * H := by omega
    exact Int.lt_of_mul_lt_mul_left h1 (by omega)
  rw [Nat.mul_comm] at he
  apply propext
  constructor
  · rintro ⟨h1, h2, h3, h4⟩
    exact .inl ⟨R, by omega, by omega, by omega, by omega⟩
  · rintro (⟨r, h1, h2, h3, h4⟩ | h1 | h1)
    · have e : R = r := by
        refine hu r (by omega) ?_
        rw [Nat.add_mul]; omega
      subst e
      exact ⟨by omega, by omega, by omega, by omega⟩
    · omega
    · omega
end Go.Proofs.Ytjclioakdmilmaa.Ink
